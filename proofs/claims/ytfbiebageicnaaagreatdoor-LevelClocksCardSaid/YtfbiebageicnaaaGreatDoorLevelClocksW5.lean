import Derived.Test.YtfbiebageicnaaaGreatDoorLevelClocksW4
namespace Go.Proofs.YtfbiebageicnaaaGreatDoor.W
open Go Go.RowKit Go.Pu Go.Gw Go.Proofs Go.Proofs.YtfbiebageicnaaaGreatDoor.M
set_option linter.unusedVariables false
set_option linter.unusedSimpArgs false
variable {Dw : Prop}
set_option maxRecDepth 4000 in
set_option maxHeartbeats 4000000 in
theorem portref2_ClocksOf_c (w : World) {A : Nat → Prop} {B : Nat} (hB : B ≤ w.heap.size) (hA : ∀ b, w.heap.size ≤ b → A b) (p : level_Policy) (v_p0 : Value) (h_p0 : Sl A w v_p0 p.pauses) (v_p1 : Value) (h_p1 : Sl A w v_p1 p.levels) (l : (List level_Point)) (v_l : Value) (h_l : Sl A w v_l l) {L : List Ob} (hH : Hp B A w (L)) {r : ((List level_Clock) × Int)} (hm : portref2_ClocksOf p l = some r) : Ret Tryz.prog 5 #[.agg #[v_p0, v_p1], v_l] w fun v w' => ∃ s0, ∃ A1 : Nat → Prop, v = .tuple #[s0, .int .i64 r.2] ∧ Hp B A1 w' (obS (α := level_Clock) 47 s0 r.1 :: L) ∧ Tr False B A w A1 w' := by
 unfold portref2_ClocksOf at hm
 refine enter Tryz.func5 rfl Tryz.ntmps5 rfl ?_
 have hK : Tr False B A w A w := Tr.refl (Dw := False) hA
 refine C_seq ?_
 refine C_region ?_
 refine V_box rfl rfl ?_
 intro b7 w9 h10
 have hk12 := h10.kp (Dw := False)
 have h11 : El (α := level_Policy) A w9 b7 0 p := h10.el hA ⟨[v_p0], _, rfl, ⟨_, rfl, h_p0⟩, ⟨_, rfl, h_p1⟩⟩
 have ht13 := Kp.tr (Dw := False) hk12 hA hB
 replace hH := Hp.kp (Dw := False) hH hk12
 replace h_l := Sl.tr (Dw := False) h_l ht13
 replace hK := Tr.trans (Dw := False) hK ht13
 replace hB := Nat.le_trans hB ht13.ex.size
 replace hA := ht13.new
 refine V_y (Y_assign rfl) rfl rfl rfl ?_
 refine V_y (Y_assign rfl) rfl rfl rfl ?_
 refine V_to (fun _ _ => rfl) ?_
 refine C_seq ?_
 refine C_seq ?_
 refine C_region ?_
 obtain ⟨v14, v16, h18, h15, h17⟩ := El_level_Policy h11
 refine V_y (Y_loadA h18 Tryz.isAgg25 Tryz.sizeOf25 rfl) rfl rfl rfl ?_
 obtain ⟨x19, hx19, hm⟩ := Option.bind_eq_some_iff.1 hm
 refine V_call Tryz.call11 rfl rfl rfl rfl (portref2_PolicyFault_c w9 hA p v14 h15 v16 h17 hx19) ?_
 rintro _ w20 ⟨rfl, hk21⟩
 have ht22 := Kp.tr (Dw := False) hk21 hA hB
 replace hH := Hp.kp (Dw := False) hH hk21
 replace h_l := Sl.tr (Dw := False) h_l ht22
 replace h11 := El.tr (Dw := False) h11 ht22
 replace hK := Tr.trans (Dw := False) hK ht22
 replace hB := Nat.le_trans hB ht22.ex.size
 replace hA := ht22.new
 refine V_y (Y_assign rfl) rfl rfl rfl ?_
 refine V_to (fun _ _ => rfl) ?_
 refine C_seq ?_
 refine C_region ?_
 refine V_y (Y_move rfl) rfl rfl rfl ?_
 refine V_y (Y_neq rfl rfl) rfl rfl rfl ?_
 refine V_to (fun _ _ => rfl) ?_
 refine C_cond rfl (fun hc23 => ?_) (fun hc23 => ?_)
 ·rw [if_pos hc23] at hm
  refine C_seq ?_
  refine C_region ?_
  refine V_y (Y_move rfl) rfl rfl rfl ?_
  refine V_y (Y_assign rfl) rfl rfl rfl ?_
  refine V_y (Y_assign rfl) rfl rfl rfl ?_
  refine V_to (fun _ _ => rfl) ?_
  obtain rfl := Option.some.inj hm
  replace hH : Hp B A w20 (obS (α := level_Clock) 47 (.slice none 0 0) ([] : (List level_Clock)) :: L) := Hp.addNil (α := level_Clock) (e := 47) hH
  refine C_ret ?_
  try simp only [↓inBlock_ret, ↓then_ret]
  exact retQ rfl (Res.two Tryz.results5 rfl rfl) ⟨.slice none 0 0, A, rfl, hH, hK⟩
 ·rw [if_neg (nt hc23)] at hm
  refine C_skip_to (fun _ _ => rfl) ?_
  refine C_seq ?_
  refine C_seq ?_
  refine C_region ?_
  refine V_y (Y_move rfl) rfl rfl rfl ?_
  obtain ⟨x24, hx24, hm⟩ := Option.bind_eq_some_iff.1 hm
  refine V_call Tryz.call8 rfl rfl rfl rfl (portref2_HistoryFault_c (Dw := False) w20 hA l v_l h_l hx24) ?_
  rintro _ w25 ⟨rfl, hk26⟩
  have ht27 := Kp.tr (Dw := False) hk26 hA hB
  replace hH := Hp.kp (Dw := False) hH hk26
  replace h_l := Sl.tr (Dw := False) h_l ht27
  replace h11 := El.tr (Dw := False) h11 ht27
  replace hK := Tr.trans (Dw := False) hK ht27
  replace hB := Nat.le_trans hB ht27.ex.size
  replace hA := ht27.new
  refine V_y (Y_assign rfl) rfl rfl rfl ?_
  refine V_to (fun _ _ => rfl) ?_
  refine C_seq ?_
  refine C_region ?_
  refine V_y (Y_move rfl) rfl rfl rfl ?_
  refine V_y (Y_neq rfl rfl) rfl rfl rfl ?_
  refine V_to (fun _ _ => rfl) ?_
  refine C_cond rfl (fun hc28 => ?_) (fun hc28 => ?_)
  ·rw [if_pos hc28] at hm
   refine C_seq ?_
   refine C_region ?_
   refine V_y (Y_move rfl) rfl rfl rfl ?_
   refine V_y (Y_assign rfl) rfl rfl rfl ?_
   refine V_y (Y_assign rfl) rfl rfl rfl ?_
   refine V_to (fun _ _ => rfl) ?_
   obtain rfl := Option.some.inj hm
   replace hH : Hp B A w25 (obS (α := level_Clock) 47 (.slice none 0 0) ([] : (List level_Clock)) :: L) := Hp.addNil (α := level_Clock) (e := 47) hH
   refine C_ret ?_
   try simp only [↓inBlock_ret, ↓then_ret]
   exact retQ rfl (Res.two Tryz.results5 rfl rfl) ⟨.slice none 0 0, A, rfl, hH, hK⟩
  ·rw [if_neg (nt hc28)] at hm
   refine C_skip_to (fun _ _ => rfl) ?_
   refine C_seq ?_
   refine C_region ?_
   refine V_allocH (Dw := False) (B := B) hH Tryz.zeroValue52 hB hA rfl ?_
   intro b29 w30 A31 hH32 ht33
   replace h_l := Sl.tr (Dw := False) h_l ht33
   replace h11 := El.tr (Dw := False) h11 ht33
   replace hK := Tr.trans (Dw := False) hK ht33
   replace hB := Nat.le_trans hB ht33.ex.size
   replace hA := ht33.new
   replace hH : Hp B A31 w30 (obC b29 [.slice none 0 0] 52 :: L) := hH32
   refine V_to (fun _ _ => rfl) ?_
   refine C_seq ?_
   refine C_region ?_
   refine V_y (Y_assign rfl) rfl rfl rfl ?_
   refine V_to (fun _ _ => rfl) ?_
   refine C_seq ?_
   refine C_region ?_
   refine V_y (Y_makeFunc rfl rfl) rfl rfl rfl ?_
   refine V_y (Y_assign rfl) rfl rfl rfl ?_
   refine V_to (fun _ _ => rfl) ?_
   refine C_seq ?_
   refine C_seq ?_
   refine C_region ?_
   refine V_y (Y_move rfl) rfl rfl rfl ?_
   refine V_y (Y_lenSl h_l rfl Tryz.underlying26 rfl) rfl rfl rfl ?_
   refine V_y (Y_move rfl) rfl rfl rfl ?_
   refine V_to (fun _ _ => rfl) ?_
   replace hH : Hp B A31 w30 (obPS (ob_portref2_ticking) 54 (.slice none 0 0) ([] : (List portref2_ticking)) :: obC b29 [.slice none 0 0] 52 :: L) := Hp.psNil hH
   have hn58 := Sl.le h_l
   obtain ⟨o34, ho34, hm⟩ := Option.bind_eq_some_iff.1 hm
   refine C_cutG (ι := ((Int × (List portref2_ticking)) × Value × (Nat → Prop))) (fun ⟨s35, v41, A43⟩ => [(8, .pointer (some ⟨b29, 0, none⟩))]) (fun ⟨s35, v41, A43⟩ => fun w' => o34 = .fin s35 ∧ Hp B A43 w' (obPS (ob_portref2_ticking) 54 v41 s35.2 :: obC b29 [v41] 52 :: L) ∧ Tr False B A31 w30 A43 w') ?_ ?_
   ·refine C_block ?_
    refine C_range ho34 (fun k37 s45 a w' => ∃ i : (Value × (Nat → Prop)), Has ⟨351, [], none⟩ a ([(1, v_l), (2, .pointer (some ⟨b7, 0, none⟩)), (8, .pointer (some ⟨b29, 0, none⟩)), (9, .int .i64 s45.1), (10, .func (.func 12) #[] #[.pointer (some ⟨b29, 0, none⟩)]), (43, v_l), (44, .int .i64 (l.length : Int)), (45, .int .i64 (k37 : Int))]) ∧ Hp B i.2 w' (obPS (ob_portref2_ticking) 54 i.1 s45.2 :: obC b29 [i.1] 52 :: L) ∧ Tr False B A31 w30 i.2 w') (fun a ha => ⟨(.slice none 0 0, A31), ha.sub ⟨rfl, rfl, rfl, rfl, rfl, rfl, rfl, rfl, trivial⟩, ⟨hH, Tr.refl (Dw := False) hA⟩⟩) ?_
    rintro K k37 s45 a w46 ⟨⟨v47, A49⟩, ha861, hH50, hr36⟩ hle54 K57 h56
    refine C_of ?_ ha861
    replace h_l := Sl.tr (Dw := False) h_l hr36
    replace h11 := El.tr (Dw := False) h11 hr36
    replace hB := Nat.le_trans hB hr36.ex.size
    replace hA := hr36.new
    replace hH : Hp B A49 w46 (obPS (ob_portref2_ticking) 54 v47 s45.2 :: obC b29 [v47] 52 :: L) := hH50
    refine C_seq (C_region (V_y (Y_lss rfl rfl) rfl rfl rfl (V_to (fun _ _ => rfl) ?_)))
    refine C_seq ?_
    refine C_cond rfl (fun hc59 => ?_) (fun hc59 => ?_)
    ·have hlt55 := lt_of_dec hc59
     obtain ⟨x51, h52, h53⟩ := K57 hlt55
     refine C_skip_to (fun _ _ => rfl) ?_
     refine C_seq ?_
     obtain ⟨s61, ho60, h52⟩ := Option.bind_eq_some_iff.1 h52
     refine C_cutG (ι := (Value × (Nat → Prop))) (fun ⟨v63, A68⟩ => [(1, v_l), (2, .pointer (some ⟨b7, 0, none⟩)), (8, .pointer (some ⟨b29, 0, none⟩)), (9, .int .i64 s61.1), (10, .func (.func 12) #[] #[.pointer (some ⟨b29, 0, none⟩)]), (43, v_l), (44, .int .i64 (l.length : Int)), (45, .int .i64 (k37 : Int))]) (fun ⟨v63, A68⟩ => fun w' => Hp B A68 w' (obPS (ob_portref2_ticking) 54 v63 s61.2 :: obC b29 [v63] 52 :: L) ∧ Tr False B A49 w46 A68 w') ?_ ?_
     ·have hr62 : Tr False B A49 w46 A49 w46 := Tr.refl (Dw := False) hA
      refine C_block ?_
      refine C_seq ?_
      refine C_region ?_
      refine V_y (Y_move rfl) rfl rfl rfl ?_
      obtain ⟨x70, hx70, ho60⟩ := Option.bind_eq_some_iff.1 ho60
      refine V_indexAddr h_l hx70 Tryz.underlying26 Tryz.sizeOf41 rfl rfl rfl ?_
      intro b71 o72 h73
      obtain ⟨v74, h76, h75⟩ := El_level_Point h73
      refine V_y (Y_loadA h76 Tryz.isAgg41 Tryz.sizeOf41 rfl) rfl rfl rfl ?_
      refine V_alloc Tryz.zeroValue41 rfl ?_
      intro b77 w78 h79
      refine V_y (Y_assign rfl) rfl rfl rfl ?_
      have h84 : (v74).oneCell' = true := by obtain ⟨_, _, e, _⟩ := Sl.form h75; rw [e]; rfl
      refine V_storeNew h79 Tryz.sizeOf41 rfl rfl rfl rfl (by exact (List.forall_mem_cons.2 ⟨rfl, (List.forall_mem_cons.2 ⟨rfl, (List.forall_mem_cons.2 ⟨rfl, (List.forall_mem_cons.2 ⟨rfl, (List.forall_mem_cons.2 ⟨rfl, (List.forall_mem_cons.2 ⟨h84, (fun _ h => nomatch h)⟩)⟩)⟩)⟩)⟩)⟩)) ?_
      intro w80 h81
      have hk86 := h81.kp (Dw := False)
      have h85 : El (α := level_Point) A49 w80 b77 0 x70 := h81.el hA ⟨[.int .i64 x70.at_], _, rfl, rfl, ⟨[.int .i64 x70.kind], _, rfl, rfl, ⟨[.int .i64 x70.who], _, rfl, rfl, ⟨[.int .i64 x70.status], _, rfl, rfl, ⟨[.int .i64 x70.priority], _, rfl, rfl, ⟨_, rfl, h75⟩⟩⟩⟩⟩⟩
      have ht87 := Kp.tr (Dw := False) hk86 hA hB
      replace hH := Hp.kp (Dw := False) hH hk86
      replace h_l := Sl.tr (Dw := False) h_l ht87
      replace h11 := El.tr (Dw := False) h11 ht87
      replace hr62 := Tr.trans (Dw := False) hr62 ht87
      replace hB := Nat.le_trans hB ht87.ex.size
      replace hA := ht87.new
      refine V_to (fun _ _ => rfl) ?_
      refine C_seq ?_
      refine C_seq ?_
      refine C_region ?_
      refine V_y (Y_load (Hp.cell (j := 0) hH (i := 1) rfl rfl) Tryz.isAgg52 rfl) rfl rfl rfl ?_
      refine V_y (Y_lenPS (Hp.psForm (f := ob_portref2_ticking) (e := 54) (v := v47) (cs := s45.2) hH (i := 0) rfl) rfl Tryz.underlying52 rfl) rfl rfl rfl ?_
      refine V_y (Y_move rfl) rfl rfl rfl ?_
      refine V_to (fun _ _ => rfl) ?_
      have hn108 := Hp.psLe (f := ob_portref2_ticking) (e := 54) (v := v47) (cs := s45.2) hH (i := 0) rfl
      obtain ⟨o88, ho88, ho60⟩ := Option.bind_eq_some_iff.1 ho60
      refine C_cutG (ι := ((List portref2_ticking) × (Nat → Prop))) (fun ⟨s89, A95⟩ => [(1, v_l), (2, .pointer (some ⟨b7, 0, none⟩)), (8, .pointer (some ⟨b29, 0, none⟩)), (9, .int .i64 s45.1), (10, .func (.func 12) #[] #[.pointer (some ⟨b29, 0, none⟩)]), (11, .int .i64 (k37 : Int)), (12, .pointer (some ⟨b77, 0, none⟩)), (43, v_l), (44, .int .i64 (l.length : Int)), (45, .int .i64 (k37 : Int))]) (fun ⟨s89, A95⟩ => fun w' => o88 = .fin s89 ∧ Hp B A95 w' (obPS (ob_portref2_ticking) 54 v47 s89 :: obC b29 [v47] 52 :: L) ∧ Tr False B A49 w80 A95 w') ?_ ?_
      ·refine C_block ?_
       refine C_range ho88 (fun k91 s97 a w' => ∃ i : (Nat → Prop), Has ⟨351, [], none⟩ a ([(1, v_l), (2, .pointer (some ⟨b7, 0, none⟩)), (8, .pointer (some ⟨b29, 0, none⟩)), (9, .int .i64 s45.1), (10, .func (.func 12) #[] #[.pointer (some ⟨b29, 0, none⟩)]), (11, .int .i64 (k37 : Int)), (12, .pointer (some ⟨b77, 0, none⟩)), (43, v_l), (44, .int .i64 (l.length : Int)), (45, .int .i64 (k37 : Int)), (50, v47), (51, .int .i64 (s45.2.length : Int)), (52, .int .i64 (k91 : Int))]) ∧ Hp B i w' (obPS (ob_portref2_ticking) 54 v47 s97 :: obC b29 [v47] 52 :: L) ∧ Tr False B A49 w80 i w') (fun a ha => ⟨A49, ha.sub ⟨rfl, rfl, rfl, rfl, rfl, rfl, rfl, rfl, rfl, rfl, rfl, rfl, rfl, trivial⟩, ⟨hH, Tr.refl (Dw := False) hA⟩⟩) ?_
       rintro K k91 s97 a w98 ⟨A99, ha218, hH100, hr90⟩ hle104 K107 h106
       refine C_of ?_ ha218
       replace h85 := El.tr (Dw := False) h85 hr90
       replace hB := Nat.le_trans hB hr90.ex.size
       replace hA := hr90.new
       replace hH : Hp B A99 w98 (obPS (ob_portref2_ticking) 54 v47 s97 :: obC b29 [v47] 52 :: L) := hH100
       refine C_seq (C_region (V_y (Y_lss rfl rfl) rfl rfl rfl (V_to (fun _ _ => rfl) ?_)))
       refine C_seq ?_
       refine C_cond rfl (fun hc109 => ?_) (fun hc109 => ?_)
       ·have hlt105 := lt_of_dec hc109
        obtain ⟨x101, h102, h103⟩ := K107 hlt105
        refine C_skip_to (fun _ _ => rfl) ?_
        refine C_seq ?_
        obtain ⟨s111, ho110, h102⟩ := Option.bind_eq_some_iff.1 h102
        refine C_cutG (ι := (Nat → Prop)) (fun (A116 : (Nat → Prop)) => [(1, v_l), (2, .pointer (some ⟨b7, 0, none⟩)), (8, .pointer (some ⟨b29, 0, none⟩)), (9, .int .i64 s45.1), (10, .func (.func 12) #[] #[.pointer (some ⟨b29, 0, none⟩)]), (11, .int .i64 (k37 : Int)), (12, .pointer (some ⟨b77, 0, none⟩)), (43, v_l), (44, .int .i64 (l.length : Int)), (45, .int .i64 (k37 : Int)), (50, v47), (51, .int .i64 (s45.2.length : Int)), (52, .int .i64 (k91 : Int))]) (fun (A116 : (Nat → Prop)) => fun w' => Hp B A116 w' (obPS (ob_portref2_ticking) 54 v47 s111 :: obC b29 [v47] 52 :: L) ∧ Tr False B A99 w98 A116 w') ?_ ?_
        ·have hr112 : Tr False B A99 w98 A99 w98 := Tr.refl (Dw := False) hA
         refine C_block ?_
         refine C_seq ?_
         refine C_region ?_
         obtain ⟨x118, hx118, ho110⟩ := Option.bind_eq_some_iff.1 ho110
         refine V_indexAddrPS (f := ob_portref2_ticking) (e := 54) (v := v47) (cs := s97) hH (i := 0) rfl hx118 Tryz.underlying52 Tryz.sizeOf54 rfl rfl rfl ?_
         intro b119 o120 b122 hk123 h121 hH
         replace hH : Hp B A99 w98 (ob_portref2_ticking b122 x118 :: obPX (ob_portref2_ticking) 54 v47 s97 (Int.toNat (k91 : Int)) b122 :: obC b29 [v47] 52 :: L) := hH
         obtain ⟨v124, hH126⟩ := Hp.open (F := obF_portref2_ticking b122 x118) hH
         replace hH : Hp B A99 w98 (obC b122 [.int .i64 x118.c.kind, .int .i64 x118.c.level, .int .i64 x118.c.minutes, .int .i64 x118.c.start, .int .i64 x118.c.stop, .int .i64 x118.c.end_, v124, .int .i64 x118.now, .int .i64 x118.at_, .int .i64 x118.cal] 56 :: obS (α := level_Piece) 67 v124 x118.c.pieces :: obPX (ob_portref2_ticking) 54 v47 s97 (Int.toNat (k91 : Int)) b122 :: obC b29 [v47] 52 :: L) := hH126
         refine V_y (Y_load h121 Tryz.isAgg54 rfl) rfl rfl rfl ?_
         refine V_y (Y_assign rfl) rfl rfl rfl ?_
         refine V_to (fun _ _ => rfl) ?_
         refine C_seq ?_
         refine C_region ?_
         have h127 := El_level_Point_1 h85
         refine V_y (Y_fieldAddr Tryz.underlying41 rfl Tryz.sizeOf3 (by decide) rfl) rfl rfl rfl ?_
         refine V_y (Y_load (El.int h127) Tryz.isAgg3 rfl) rfl rfl rfl ?_
         refine V_y (Y_eql rfl rfl) rfl rfl rfl ?_
         refine V_y (Y_move rfl) rfl rfl rfl ?_
         refine V_cut 4 (fun _ : Unit => [(1, v_l), (2, .pointer (some ⟨b7, 0, none⟩)), (8, .pointer (some ⟨b29, 0, none⟩)), (9, .int .i64 s45.1), (10, .func (.func 12) #[] #[.pointer (some ⟨b29, 0, none⟩)]), (11, .int .i64 (k37 : Int)), (12, .pointer (some ⟨b77, 0, none⟩)), (14, .pointer (some ⟨b122, 0, none⟩)), (43, v_l), (44, .int .i64 (l.length : Int)), (45, .int .i64 (k37 : Int)), (50, v47), (51, .int .i64 (s45.2.length : Int)), (52, .int .i64 (k91 : Int)), (63, .bool ((x70.kind == 2) && (decide ((0 : Int) < x70.who))))]) (fun _ w' => w98 = w') ?_ ?_
         ·simp only [List.take, List.drop]
          rcases Bool.eq_false_or_eq_true (x70.kind == 2) with hc128 | hc128
          ·refine V_ge rfl rfl rfl hc128 ?_
           have h130 := El_level_Point_2 h85
           refine V_y (Y_fieldAddr Tryz.underlying41 rfl Tryz.sizeOf3 (by decide) rfl) rfl rfl rfl ?_
           refine V_ge rfl rfl rfl hc128 ?_
           refine V_y (Y_load (El.int h130) Tryz.isAgg3 rfl) rfl rfl rfl ?_
           refine V_ge rfl rfl rfl hc128 ?_
           refine V_y (Y_gtr rfl rfl) rfl rfl rfl ?_
           refine V_y (Y_pick_te rfl hc128 rfl) rfl rfl rfl ?_
           exact V_end fun a ha => ⟨(), ha.sub ⟨rfl, rfl, rfl, rfl, rfl, rfl, rfl, rfl, rfl, rfl, rfl, rfl, rfl, rfl, (by rw [hc128]; rfl), trivial⟩, rfl⟩
          ·refine V_gn rfl rfl rfl hc128 rfl rfl rfl ?_
           refine V_gn rfl rfl rfl hc128 rfl rfl rfl ?_
           refine V_gn rfl rfl rfl hc128 rfl rfl rfl ?_
           refine V_y (Y_pick_fe rfl hc128 rfl) rfl rfl rfl ?_
           exact V_end fun a ha => ⟨(), ha.sub ⟨rfl, rfl, rfl, rfl, rfl, rfl, rfl, rfl, rfl, rfl, rfl, rfl, rfl, rfl, (by rw [hc128]; rfl), trivial⟩, rfl⟩
         simp only [List.take, List.drop]
         rintro _ _ rfl
         refine V_y (Y_assign rfl) rfl rfl rfl ?_
         refine V_to (fun _ _ => rfl) ?_
         obtain ⟨s132, ho131, ho110⟩ := Option.bind_eq_some_iff.1 ho110
         refine C_cutG (ι := (Value × (Nat → Prop))) (fun ⟨v134, A139⟩ => [(1, v_l), (2, .pointer (some ⟨b7, 0, none⟩)), (8, .pointer (some ⟨b29, 0, none⟩)), (9, .int .i64 s45.1), (10, .func (.func 12) #[] #[.pointer (some ⟨b29, 0, none⟩)]), (11, .int .i64 (k37 : Int)), (12, .pointer (some ⟨b77, 0, none⟩)), (43, v_l), (44, .int .i64 (l.length : Int)), (45, .int .i64 (k37 : Int)), (50, v47), (51, .int .i64 (s45.2.length : Int)), (52, .int .i64 (k91 : Int))]) (fun ⟨v134, A139⟩ => fun w' => Hp B A139 w' (obC b122 [.int .i64 s132.c.kind, .int .i64 s132.c.level, .int .i64 s132.c.minutes, .int .i64 s132.c.start, .int .i64 s132.c.stop, .int .i64 s132.c.end_, v134, .int .i64 s132.now, .int .i64 s132.at_, .int .i64 s132.cal] 56 :: obS (α := level_Piece) 67 v134 s132.c.pieces :: obPX (ob_portref2_ticking) 54 v47 s97 (Int.toNat (k91 : Int)) b122 :: obC b29 [v47] 52 :: L) ∧ Tr False B A99 w98 A139 w') ?_ ?_
         ·have hr133 : Tr False B A99 w98 A99 w98 := Tr.refl (Dw := False) hA
          refine C_block ?_
          refine C_seq ?_
          refine C_region ?_
          refine V_y (Y_move rfl) rfl rfl rfl ?_
          refine V_y (Y_nilCheck rfl) rfl rfl rfl ?_
          refine V_y (Y_fieldAddrC (off2 := 0) Tryz.underlying56 rfl Tryz.sizeOf47 (by decide) rfl rfl) rfl rfl rfl ?_
          refine V_y (Y_fieldAddrC (off2 := 4) Tryz.underlying47 rfl Tryz.sizeOf3 (by decide) rfl rfl) rfl rfl rfl ?_
          refine V_y (Y_load (Hp.cell (j := 4) hH (i := 0) rfl rfl) Tryz.isAgg3 rfl) rfl rfl rfl ?_
          refine V_y (Y_geq rfl rfl) rfl rfl rfl ?_
          refine V_y (Y_assign rfl) rfl rfl rfl ?_
          refine V_to (fun _ _ => rfl) ?_
          obtain ⟨s142, ho141, ho131⟩ := Option.bind_eq_some_iff.1 ho131
          refine C_cutG (ι := (Value × (Nat → Prop))) (fun ⟨v144, A149⟩ => [(1, v_l), (2, .pointer (some ⟨b7, 0, none⟩)), (8, .pointer (some ⟨b29, 0, none⟩)), (9, .int .i64 s45.1), (10, .func (.func 12) #[] #[.pointer (some ⟨b29, 0, none⟩)]), (11, .int .i64 (k37 : Int)), (12, .pointer (some ⟨b77, 0, none⟩)), (43, v_l), (44, .int .i64 (l.length : Int)), (45, .int .i64 (k37 : Int)), (50, v47), (51, .int .i64 (s45.2.length : Int)), (52, .int .i64 (k91 : Int))]) (fun ⟨v144, A149⟩ => fun w' => Hp B A149 w' (obC b122 [.int .i64 s142.c.kind, .int .i64 s142.c.level, .int .i64 s142.c.minutes, .int .i64 s142.c.start, .int .i64 s142.c.stop, .int .i64 s142.c.end_, v144, .int .i64 s142.now, .int .i64 s142.at_, .int .i64 s142.cal] 56 :: obS (α := level_Piece) 67 v144 s142.c.pieces :: obPX (ob_portref2_ticking) 54 v47 s97 (Int.toNat (k91 : Int)) b122 :: obC b29 [v47] 52 :: L) ∧ Tr False B A99 w98 A149 w') ?_ ?_
          ·have hr143 : Tr False B A99 w98 A99 w98 := Tr.refl (Dw := False) hA
           refine C_cond rfl (fun hc151 => ?_) (fun hc151 => ?_)
           ·rw [if_pos hc151] at ho141
            obtain rfl := Option.some.inj ho141
            refine C_skip (fun a ha152 => ?_)
            exact ⟨(v124, A99), ha152.sub ⟨rfl, rfl, rfl, rfl, rfl, rfl, rfl, rfl, rfl, rfl, rfl, rfl, rfl, trivial⟩, ⟨hH, hr143⟩⟩
           ·rw [if_neg (nt hc151)] at ho141
            refine C_seq ?_
            refine C_region ?_
            have h153 := El_level_Point_1 h85
            refine V_y (Y_fieldAddr Tryz.underlying41 rfl Tryz.sizeOf3 (by decide) rfl) rfl rfl rfl ?_
            refine V_y (Y_load (El.int h153) Tryz.isAgg3 rfl) rfl rfl rfl ?_
            refine V_y (Y_eql rfl rfl) rfl rfl rfl ?_
            refine V_y (Y_move rfl) rfl rfl rfl ?_
            refine V_cut 4 (fun _ : Unit => [(1, v_l), (2, .pointer (some ⟨b7, 0, none⟩)), (8, .pointer (some ⟨b29, 0, none⟩)), (9, .int .i64 s45.1), (10, .func (.func 12) #[] #[.pointer (some ⟨b29, 0, none⟩)]), (11, .int .i64 (k37 : Int)), (12, .pointer (some ⟨b77, 0, none⟩)), (14, .pointer (some ⟨b122, 0, none⟩)), (15, .bool ((x70.kind == 2) && (decide ((0 : Int) < x70.who)))), (43, v_l), (44, .int .i64 (l.length : Int)), (45, .int .i64 (k37 : Int)), (50, v47), (51, .int .i64 (s45.2.length : Int)), (52, .int .i64 (k91 : Int)), (79, .bool ((x70.kind == 7) && (x70.status == 6)))]) (fun _ w' => w98 = w') ?_ ?_
            ·simp only [List.take, List.drop]
             rcases Bool.eq_false_or_eq_true (x70.kind == 7) with hc154 | hc154
             ·refine V_ge rfl rfl rfl hc154 ?_
              have h156 := El_level_Point_3 h85
              refine V_y (Y_fieldAddr Tryz.underlying41 rfl Tryz.sizeOf3 (by decide) rfl) rfl rfl rfl ?_
              refine V_ge rfl rfl rfl hc154 ?_
              refine V_y (Y_load (El.int h156) Tryz.isAgg3 rfl) rfl rfl rfl ?_
              refine V_ge rfl rfl rfl hc154 ?_
              refine V_y (Y_eql rfl rfl) rfl rfl rfl ?_
              refine V_y (Y_pick_te rfl hc154 rfl) rfl rfl rfl ?_
              exact V_end fun a ha => ⟨(), ha.sub ⟨rfl, rfl, rfl, rfl, rfl, rfl, rfl, rfl, rfl, rfl, rfl, rfl, rfl, rfl, rfl, (by rw [hc154]; rfl), trivial⟩, rfl⟩
             ·refine V_gn rfl rfl rfl hc154 rfl rfl rfl ?_
              refine V_gn rfl rfl rfl hc154 rfl rfl rfl ?_
              refine V_gn rfl rfl rfl hc154 rfl rfl rfl ?_
              refine V_y (Y_pick_fe rfl hc154 rfl) rfl rfl rfl ?_
              exact V_end fun a ha => ⟨(), ha.sub ⟨rfl, rfl, rfl, rfl, rfl, rfl, rfl, rfl, rfl, rfl, rfl, rfl, rfl, rfl, rfl, (by rw [hc154]; rfl), trivial⟩, rfl⟩
            simp only [List.take, List.drop]
            rintro _ _ rfl
            refine V_y (Y_assign rfl) rfl rfl rfl ?_
            refine V_to (fun _ _ => rfl) ?_
            obtain ⟨s158, ho157, ho141⟩ := Option.bind_eq_some_iff.1 ho141
            refine C_cutG (ι := (Value × (Nat → Prop))) (fun ⟨v160, A165⟩ => [(1, v_l), (2, .pointer (some ⟨b7, 0, none⟩)), (8, .pointer (some ⟨b29, 0, none⟩)), (9, .int .i64 s45.1), (10, .func (.func 12) #[] #[.pointer (some ⟨b29, 0, none⟩)]), (11, .int .i64 (k37 : Int)), (12, .pointer (some ⟨b77, 0, none⟩)), (43, v_l), (44, .int .i64 (l.length : Int)), (45, .int .i64 (k37 : Int)), (50, v47), (51, .int .i64 (s45.2.length : Int)), (52, .int .i64 (k91 : Int))]) (fun ⟨v160, A165⟩ => fun w' => Hp B A165 w' (obC b122 [.int .i64 s158.c.kind, .int .i64 s158.c.level, .int .i64 s158.c.minutes, .int .i64 s158.c.start, .int .i64 s158.c.stop, .int .i64 s158.c.end_, v160, .int .i64 s158.now, .int .i64 s158.at_, .int .i64 s158.cal] 56 :: obS (α := level_Piece) 67 v160 s158.c.pieces :: obPX (ob_portref2_ticking) 54 v47 s97 (Int.toNat (k91 : Int)) b122 :: obC b29 [v47] 52 :: L) ∧ Tr False B A99 w98 A165 w') ?_ ?_
            ·have hr159 : Tr False B A99 w98 A99 w98 := Tr.refl (Dw := False) hA
             refine C_cond rfl (fun hc167 => ?_) (fun hc167 => ?_)
             ·rw [if_pos hc167] at ho157
              refine C_region ?_
              refine V_y (Y_move rfl) rfl rfl rfl ?_
              have h168 := El_level_Point_0 h85
              refine V_y (Y_fieldAddr Tryz.underlying41 rfl Tryz.sizeOf3 (by decide) rfl) rfl rfl rfl ?_
              refine V_y (Y_load (El.int h168) Tryz.isAgg3 rfl) rfl rfl rfl ?_
              replace hH : Hp B A99 w98 (obS (α := level_Piece) 67 v124 x118.c.pieces :: obC b122 [.int .i64 x118.c.kind, .int .i64 x118.c.level, .int .i64 x118.c.minutes, .int .i64 x118.c.start, .int .i64 x118.c.stop, .int .i64 x118.c.end_, v124, .int .i64 x118.now, .int .i64 x118.at_, .int .i64 x118.cal] 56 :: obPX (ob_portref2_ticking) 54 v47 s97 (Int.toNat (k91 : Int)) b122 :: obC b29 [v47] 52 :: L) := Hp.front hH (i := 1) rfl
              replace hH : Hp B A99 w98 (obC b122 [.int .i64 x118.c.kind, .int .i64 x118.c.level, .int .i64 x118.c.minutes, .int .i64 x118.c.start, .int .i64 x118.c.stop, .int .i64 x118.c.end_, v124, .int .i64 x118.now, .int .i64 x118.at_, .int .i64 x118.cal] 56 :: obS (α := level_Piece) 67 v124 x118.c.pieces :: obPX (ob_portref2_ticking) 54 v47 s97 (Int.toNat (k91 : Int)) b122 :: obC b29 [v47] 52 :: L) := Hp.front hH (i := 1) rfl
              obtain ⟨x169, hx169, ho157⟩ := Option.bind_eq_some_iff.1 ho157
              refine V_call Tryz.call16 rfl rfl rfl rfl (portref2_ticking_end_c (Dw := False) w98 hB hA x118 b122 v124 x70.at_ 2 hH hx169) ?_
              rintro _ w172 ⟨v170, A173, rfl, hH174, ht175⟩
              replace hr159 := Tr.trans (Dw := False) hr159 ht175
              replace hH : Hp B A173 w172 (obC b122 [.int .i64 x169.c.kind, .int .i64 x169.c.level, .int .i64 x169.c.minutes, .int .i64 x169.c.start, .int .i64 x169.c.stop, .int .i64 x169.c.end_, v170, .int .i64 x169.now, .int .i64 x169.at_, .int .i64 x169.cal] 56 :: obS (α := level_Piece) 67 v170 x169.c.pieces :: obPX (ob_portref2_ticking) 54 v47 s97 (Int.toNat (k91 : Int)) b122 :: obC b29 [v47] 52 :: L) := hH174
              obtain rfl := Option.some.inj ho157
              refine V_end (fun a ha176 => ?_)
              exact ⟨(v170, A173), ha176.sub ⟨rfl, rfl, rfl, rfl, rfl, rfl, rfl, rfl, rfl, rfl, rfl, rfl, rfl, trivial⟩, ⟨hH, hr159⟩⟩
             ·rw [if_neg (nt hc167)] at ho157
              refine C_seq ?_
              refine C_seq ?_
              refine C_region ?_
              refine V_y (Y_move rfl) rfl rfl rfl ?_
              refine V_y (Y_nilCheck rfl) rfl rfl rfl ?_
              refine V_y (Y_fieldAddrC (off2 := 0) Tryz.underlying56 rfl Tryz.sizeOf47 (by decide) rfl rfl) rfl rfl rfl ?_
              refine V_y (Y_fieldAddrC (off2 := 0) Tryz.underlying47 rfl Tryz.sizeOf3 (by decide) rfl rfl) rfl rfl rfl ?_
              refine V_y (Y_load (Hp.cell (j := 0) hH (i := 0) rfl rfl) Tryz.isAgg3 rfl) rfl rfl rfl ?_
              refine V_y (Y_neq rfl rfl) rfl rfl rfl ?_
              refine V_y (Y_move rfl) rfl rfl rfl ?_
              refine V_cut 2 (fun _ : Unit => [(1, v_l), (2, .pointer (some ⟨b7, 0, none⟩)), (8, .pointer (some ⟨b29, 0, none⟩)), (9, .int .i64 s45.1), (10, .func (.func 12) #[] #[.pointer (some ⟨b29, 0, none⟩)]), (11, .int .i64 (k37 : Int)), (12, .pointer (some ⟨b77, 0, none⟩)), (14, .pointer (some ⟨b122, 0, none⟩)), (43, v_l), (44, .int .i64 (l.length : Int)), (45, .int .i64 (k37 : Int)), (50, v47), (51, .int .i64 (s45.2.length : Int)), (52, .int .i64 (k91 : Int)), (93, .bool ((x118.c.kind != 3) && ((x70.kind == 2) && (decide ((0 : Int) < x70.who)))))]) (fun _ w' => w98 = w') ?_ ?_
              ·simp only [List.take, List.drop]
               rcases Bool.eq_false_or_eq_true (x118.c.kind != 3) with hc177 | hc177
               ·refine V_ge rfl rfl rfl hc177 ?_
                refine V_y (Y_move rfl) rfl rfl rfl ?_
                refine V_y (Y_pick_te rfl hc177 rfl) rfl rfl rfl ?_
                exact V_end fun a ha => ⟨(), ha.sub ⟨rfl, rfl, rfl, rfl, rfl, rfl, rfl, rfl, rfl, rfl, rfl, rfl, rfl, rfl, (by rw [hc177]; rfl), trivial⟩, rfl⟩
               ·refine V_gn rfl rfl rfl hc177 rfl rfl rfl ?_
                refine V_y (Y_pick_fe rfl hc177 rfl) rfl rfl rfl ?_
                exact V_end fun a ha => ⟨(), ha.sub ⟨rfl, rfl, rfl, rfl, rfl, rfl, rfl, rfl, rfl, rfl, rfl, rfl, rfl, rfl, (by rw [hc177]; rfl), trivial⟩, rfl⟩
              simp only [List.take, List.drop]
              rintro _ _ rfl
              refine V_y (Y_assign rfl) rfl rfl rfl ?_
              refine V_to (fun _ _ => rfl) ?_
              obtain ⟨s180, ho179, ho157⟩ := Option.bind_eq_some_iff.1 ho157
              refine C_cutG (ι := Unit) (fun (_ : Unit) => [(1, v_l), (2, .pointer (some ⟨b7, 0, none⟩)), (8, .pointer (some ⟨b29, 0, none⟩)), (9, .int .i64 s45.1), (10, .func (.func 12) #[] #[.pointer (some ⟨b29, 0, none⟩)]), (11, .int .i64 (k37 : Int)), (12, .pointer (some ⟨b77, 0, none⟩)), (14, .pointer (some ⟨b122, 0, none⟩)), (43, v_l), (44, .int .i64 (l.length : Int)), (45, .int .i64 (k37 : Int)), (50, v47), (51, .int .i64 (s45.2.length : Int)), (52, .int .i64 (k91 : Int)), (84, .bool s180)]) (fun (_ : Unit) => fun w' => w98 = w') ?_ ?_
              ·refine C_cond rfl (fun hc185 => ?_) (fun hc185 => ?_)
               ·rw [if_pos hc185] at ho179
                obtain rfl := Option.some.inj ho179
                refine C_skip (fun a ha186 => ?_)
                exact ⟨(), ha186.sub ⟨rfl, rfl, rfl, rfl, rfl, rfl, rfl, rfl, rfl, rfl, rfl, rfl, rfl, rfl, rfl, trivial⟩, rfl⟩
               ·rw [if_neg (nt hc185)] at ho179
                refine C_region ?_
                refine V_y (Y_move rfl) rfl rfl rfl ?_
                refine V_y (Y_nilCheck rfl) rfl rfl rfl ?_
                refine V_y (Y_fieldAddrC (off2 := 0) Tryz.underlying56 rfl Tryz.sizeOf47 (by decide) rfl rfl) rfl rfl rfl ?_
                refine V_y (Y_fieldAddrC (off2 := 0) Tryz.underlying47 rfl Tryz.sizeOf3 (by decide) rfl rfl) rfl rfl rfl ?_
                refine V_y (Y_load (Hp.cell (j := 0) hH (i := 0) rfl rfl) Tryz.isAgg3 rfl) rfl rfl rfl ?_
                refine V_y (Y_eql rfl rfl) rfl rfl rfl ?_
                refine V_y (Y_move rfl) rfl rfl rfl ?_
                refine V_cut 4 (fun _ : Unit => [(1, v_l), (2, .pointer (some ⟨b7, 0, none⟩)), (8, .pointer (some ⟨b29, 0, none⟩)), (9, .int .i64 s45.1), (10, .func (.func 12) #[] #[.pointer (some ⟨b29, 0, none⟩)]), (11, .int .i64 (k37 : Int)), (12, .pointer (some ⟨b77, 0, none⟩)), (14, .pointer (some ⟨b122, 0, none⟩)), (43, v_l), (44, .int .i64 (l.length : Int)), (45, .int .i64 (k37 : Int)), (50, v47), (51, .int .i64 (s45.2.length : Int)), (52, .int .i64 (k91 : Int)), (104, .bool ((x118.c.kind == 3) && (portref2_over x70.status)))]) (fun _ w' => w98 = w') ?_ ?_
                ·simp only [List.take, List.drop]
                 rcases Bool.eq_false_or_eq_true (x118.c.kind == 3) with hc187 | hc187
                 ·refine V_ge rfl rfl rfl hc187 ?_
                  have h189 := El_level_Point_3 h85
                  refine V_y (Y_fieldAddr Tryz.underlying41 rfl Tryz.sizeOf3 (by decide) rfl) rfl rfl rfl ?_
                  refine V_ge rfl rfl rfl hc187 ?_
                  refine V_y (Y_load (El.int h189) Tryz.isAgg3 rfl) rfl rfl rfl ?_
                  refine V_ge rfl rfl rfl hc187 ?_
                  refine V_call Tryz.call17 rfl rfl rfl rfl (portref2_over_c w98 x70.status) ?_
                  rintro _ _ ⟨rfl, rfl⟩
                  refine V_y (Y_pick_te rfl hc187 rfl) rfl rfl rfl ?_
                  exact V_end fun a ha => ⟨(), ha.sub ⟨rfl, rfl, rfl, rfl, rfl, rfl, rfl, rfl, rfl, rfl, rfl, rfl, rfl, rfl, (by rw [hc187]; rfl), trivial⟩, rfl⟩
                 ·refine V_gn rfl rfl rfl hc187 rfl rfl rfl ?_
                  refine V_gn rfl rfl rfl hc187 rfl rfl rfl ?_
                  refine V_gn rfl rfl rfl hc187 rfl rfl rfl ?_
                  refine V_y (Y_pick_fe rfl hc187 rfl) rfl rfl rfl ?_
                  exact V_end fun a ha => ⟨(), ha.sub ⟨rfl, rfl, rfl, rfl, rfl, rfl, rfl, rfl, rfl, rfl, rfl, rfl, rfl, rfl, (by rw [hc187]; rfl), trivial⟩, rfl⟩
                simp only [List.take, List.drop]
                rintro _ _ rfl
                refine V_y (Y_assign rfl) rfl rfl rfl ?_
                obtain rfl := Option.some.inj ho179
                refine V_end (fun a ha190 => ?_)
                exact ⟨(), ha190.sub ⟨rfl, rfl, rfl, rfl, rfl, rfl, rfl, rfl, rfl, rfl, rfl, rfl, rfl, rfl, rfl, trivial⟩, rfl⟩
              rintro _ _ rfl a ha184
              refine C_at (n := ⟨351, [], none⟩) (fun _ _ => rfl) ?_ ha184
              obtain ⟨s192, ho191, ho157⟩ := Option.bind_eq_some_iff.1 ho157
              refine C_cutG (ι := (Value × (Nat → Prop))) (fun ⟨v194, A199⟩ => [(1, v_l), (2, .pointer (some ⟨b7, 0, none⟩)), (8, .pointer (some ⟨b29, 0, none⟩)), (9, .int .i64 s45.1), (10, .func (.func 12) #[] #[.pointer (some ⟨b29, 0, none⟩)]), (11, .int .i64 (k37 : Int)), (12, .pointer (some ⟨b77, 0, none⟩)), (43, v_l), (44, .int .i64 (l.length : Int)), (45, .int .i64 (k37 : Int)), (50, v47), (51, .int .i64 (s45.2.length : Int)), (52, .int .i64 (k91 : Int))]) (fun ⟨v194, A199⟩ => fun w' => Hp B A199 w' (obC b122 [.int .i64 s192.c.kind, .int .i64 s192.c.level, .int .i64 s192.c.minutes, .int .i64 s192.c.start, .int .i64 s192.c.stop, .int .i64 s192.c.end_, v194, .int .i64 s192.now, .int .i64 s192.at_, .int .i64 s192.cal] 56 :: obS (α := level_Piece) 67 v194 s192.c.pieces :: obPX (ob_portref2_ticking) 54 v47 s97 (Int.toNat (k91 : Int)) b122 :: obC b29 [v47] 52 :: L) ∧ Tr False B A99 w98 A199 w') ?_ ?_
              ·have hr193 : Tr False B A99 w98 A99 w98 := Tr.refl (Dw := False) hA
               refine C_cond rfl (fun hc201 => ?_) (fun hc201 => ?_)
               ·rw [if_pos hc201] at ho191
                refine C_region ?_
                refine V_y (Y_move rfl) rfl rfl rfl ?_
                have h202 := El_level_Point_0 h85
                refine V_y (Y_fieldAddr Tryz.underlying41 rfl Tryz.sizeOf3 (by decide) rfl) rfl rfl rfl ?_
                refine V_y (Y_load (El.int h202) Tryz.isAgg3 rfl) rfl rfl rfl ?_
                replace hH : Hp B A99 w98 (obS (α := level_Piece) 67 v124 x118.c.pieces :: obC b122 [.int .i64 x118.c.kind, .int .i64 x118.c.level, .int .i64 x118.c.minutes, .int .i64 x118.c.start, .int .i64 x118.c.stop, .int .i64 x118.c.end_, v124, .int .i64 x118.now, .int .i64 x118.at_, .int .i64 x118.cal] 56 :: obPX (ob_portref2_ticking) 54 v47 s97 (Int.toNat (k91 : Int)) b122 :: obC b29 [v47] 52 :: L) := Hp.front hH (i := 1) rfl
                replace hH : Hp B A99 w98 (obC b122 [.int .i64 x118.c.kind, .int .i64 x118.c.level, .int .i64 x118.c.minutes, .int .i64 x118.c.start, .int .i64 x118.c.stop, .int .i64 x118.c.end_, v124, .int .i64 x118.now, .int .i64 x118.at_, .int .i64 x118.cal] 56 :: obS (α := level_Piece) 67 v124 x118.c.pieces :: obPX (ob_portref2_ticking) 54 v47 s97 (Int.toNat (k91 : Int)) b122 :: obC b29 [v47] 52 :: L) := Hp.front hH (i := 1) rfl
                obtain ⟨x203, hx203, ho191⟩ := Option.bind_eq_some_iff.1 ho191
                refine V_call Tryz.call16 rfl rfl rfl rfl (portref2_ticking_end_c (Dw := False) w98 hB hA x118 b122 v124 x70.at_ 1 hH hx203) ?_
                rintro _ w206 ⟨v204, A207, rfl, hH208, ht209⟩
                replace hr193 := Tr.trans (Dw := False) hr193 ht209
                replace hH : Hp B A207 w206 (obC b122 [.int .i64 x203.c.kind, .int .i64 x203.c.level, .int .i64 x203.c.minutes, .int .i64 x203.c.start, .int .i64 x203.c.stop, .int .i64 x203.c.end_, v204, .int .i64 x203.now, .int .i64 x203.at_, .int .i64 x203.cal] 56 :: obS (α := level_Piece) 67 v204 x203.c.pieces :: obPX (ob_portref2_ticking) 54 v47 s97 (Int.toNat (k91 : Int)) b122 :: obC b29 [v47] 52 :: L) := hH208
                obtain rfl := Option.some.inj ho191
                refine V_end (fun a ha210 => ?_)
                exact ⟨(v204, A207), ha210.sub ⟨rfl, rfl, rfl, rfl, rfl, rfl, rfl, rfl, rfl, rfl, rfl, rfl, rfl, trivial⟩, ⟨hH, hr193⟩⟩
               ·rw [if_neg (nt hc201)] at ho191
                obtain rfl := Option.some.inj ho191
                refine C_skip (fun a ha211 => ?_)
                exact ⟨(v124, A99), ha211.sub ⟨rfl, rfl, rfl, rfl, rfl, rfl, rfl, rfl, rfl, rfl, rfl, rfl, rfl, trivial⟩, ⟨hH, hr193⟩⟩
              rintro ⟨v194, A199⟩ w196 ⟨hH200, hk197⟩ a ha198
              replace hr159 := Tr.trans (Dw := False) hr159 hk197
              replace hA := hk197.new
              replace hH : Hp B A199 w196 (obC b122 [.int .i64 s192.c.kind, .int .i64 s192.c.level, .int .i64 s192.c.minutes, .int .i64 s192.c.start, .int .i64 s192.c.stop, .int .i64 s192.c.end_, v194, .int .i64 s192.now, .int .i64 s192.at_, .int .i64 s192.cal] 56 :: obS (α := level_Piece) 67 v194 s192.c.pieces :: obPX (ob_portref2_ticking) 54 v47 s97 (Int.toNat (k91 : Int)) b122 :: obC b29 [v47] 52 :: L) := hH200
              obtain rfl := Option.some.inj ho157
              exact ⟨(v194, A199), ha198.sub ⟨rfl, rfl, rfl, rfl, rfl, rfl, rfl, rfl, rfl, rfl, rfl, rfl, rfl, trivial⟩, ⟨hH, hr159⟩⟩
            rintro ⟨v160, A165⟩ w162 ⟨hH166, hk163⟩ a ha164
            replace hr143 := Tr.trans (Dw := False) hr143 hk163
            replace hA := hk163.new
            replace hH : Hp B A165 w162 (obC b122 [.int .i64 s158.c.kind, .int .i64 s158.c.level, .int .i64 s158.c.minutes, .int .i64 s158.c.start, .int .i64 s158.c.stop, .int .i64 s158.c.end_, v160, .int .i64 s158.now, .int .i64 s158.at_, .int .i64 s158.cal] 56 :: obS (α := level_Piece) 67 v160 s158.c.pieces :: obPX (ob_portref2_ticking) 54 v47 s97 (Int.toNat (k91 : Int)) b122 :: obC b29 [v47] 52 :: L) := hH166
            obtain rfl := Option.some.inj ho141
            exact ⟨(v160, A165), ha164.sub ⟨rfl, rfl, rfl, rfl, rfl, rfl, rfl, rfl, rfl, rfl, rfl, rfl, rfl, trivial⟩, ⟨hH, hr143⟩⟩
          rintro ⟨v144, A149⟩ w146 ⟨hH150, hk147⟩ a ha148
          replace hr133 := Tr.trans (Dw := False) hr133 hk147
          replace hA := hk147.new
          replace hH : Hp B A149 w146 (obC b122 [.int .i64 s142.c.kind, .int .i64 s142.c.level, .int .i64 s142.c.minutes, .int .i64 s142.c.start, .int .i64 s142.c.stop, .int .i64 s142.c.end_, v144, .int .i64 s142.now, .int .i64 s142.at_, .int .i64 s142.cal] 56 :: obS (α := level_Piece) 67 v144 s142.c.pieces :: obPX (ob_portref2_ticking) 54 v47 s97 (Int.toNat (k91 : Int)) b122 :: obC b29 [v47] 52 :: L) := hH150
          obtain rfl := Option.some.inj ho131
          exact ⟨(v144, A149), ha148.sub ⟨rfl, rfl, rfl, rfl, rfl, rfl, rfl, rfl, rfl, rfl, rfl, rfl, rfl, trivial⟩, ⟨hH, hr133⟩⟩
         rintro ⟨v134, A139⟩ w136 ⟨hH140, hk137⟩ a ha138
         replace hr112 := Tr.trans (Dw := False) hr112 hk137
         replace hA := hk137.new
         replace hH : Hp B A139 w136 (obC b122 [.int .i64 s132.c.kind, .int .i64 s132.c.level, .int .i64 s132.c.minutes, .int .i64 s132.c.start, .int .i64 s132.c.stop, .int .i64 s132.c.end_, v134, .int .i64 s132.now, .int .i64 s132.at_, .int .i64 s132.cal] 56 :: obS (α := level_Piece) 67 v134 s132.c.pieces :: obPX (ob_portref2_ticking) 54 v47 s97 (Int.toNat (k91 : Int)) b122 :: obC b29 [v47] 52 :: L) := hH140
         obtain rfl := Option.some.inj ho110
         replace hH : Hp B A139 w136 (obS (α := level_Piece) 67 v134 s132.c.pieces :: obC b122 [.int .i64 s132.c.kind, .int .i64 s132.c.level, .int .i64 s132.c.minutes, .int .i64 s132.c.start, .int .i64 s132.c.stop, .int .i64 s132.c.end_, v134, .int .i64 s132.now, .int .i64 s132.at_, .int .i64 s132.cal] 56 :: obPX (ob_portref2_ticking) 54 v47 s97 (Int.toNat (k91 : Int)) b122 :: obC b29 [v47] 52 :: L) := Hp.front hH (i := 1) rfl
         replace hH : Hp B A139 w136 (obC b122 [.int .i64 s132.c.kind, .int .i64 s132.c.level, .int .i64 s132.c.minutes, .int .i64 s132.c.start, .int .i64 s132.c.stop, .int .i64 s132.c.end_, v134, .int .i64 s132.now, .int .i64 s132.at_, .int .i64 s132.cal] 56 :: obS (α := level_Piece) 67 v134 s132.c.pieces :: obPX (ob_portref2_ticking) 54 v47 s97 (Int.toNat (k91 : Int)) b122 :: obC b29 [v47] 52 :: L) := Hp.front hH (i := 1) rfl
         replace hH : Hp B A139 w136 (ob_portref2_ticking b122 s132 :: obPX (ob_portref2_ticking) 54 v47 s97 (Int.toNat (k91 : Int)) b122 :: obC b29 [v47] 52 :: L) := Hp.pack (F := obF_portref2_ticking b122 s132) v134 hH
         replace hH : Hp B A139 w136 (obPS (ob_portref2_ticking) 54 v47 (List.set s97 (Int.toNat (k91 : Int)) s132) :: obC b29 [v47] 52 :: L) := Hp.psClose hH (i := 0) rfl hk123
         exact ⟨A139, ha138.sub ⟨rfl, rfl, rfl, rfl, rfl, rfl, rfl, rfl, rfl, rfl, rfl, rfl, rfl, trivial⟩, ⟨hH, hr112⟩⟩
        rintro A116 w113 ⟨hH117, hk114⟩ a ha115
        replace hr90 := Tr.trans (Dw := False) hr90 hk114
        replace hA := hk114.new
        replace hH : Hp B A116 w113 (obPS (ob_portref2_ticking) 54 v47 s111 :: obC b29 [v47] 52 :: L) := hH117
        refine C_at (n := ⟨351, [], none⟩) (fun _ _ => rfl) ?_ ha115
        refine C_region ?_
        refine V_y (Y_addI rfl rfl) rfl rfl rfl ?_
        refine V_y (Y_move rfl) rfl rfl rfl ?_
        obtain rfl := Option.some.inj h102
        refine V_end (fun a ha216 => ?_)
        exact ⟨s111, hlt105, h103, ⟨A116, ha216.sub ⟨rfl, rfl, rfl, rfl, rfl, rfl, rfl, rfl, rfl, rfl, rfl, rfl, (congrArg (fun z => some (Value.int .i64 z)) (w64_succ hlt105 hn108)), trivial⟩, ⟨hH, hr90⟩⟩⟩
       ·refine C_exit (fun a ha217 => ?_)
        exact ⟨(s97, A99), ha217.sub ⟨rfl, rfl, rfl, rfl, rfl, rfl, rfl, rfl, rfl, rfl, trivial⟩, ⟨(h106 (eq_of_dec hle104 hc109)).symm, hH, hr90⟩⟩
      rintro ⟨s89, A95⟩ w92 ⟨rfl, hH96, hk93⟩ a ha94
      rw [Lp.andThen_fin] at ho60
      replace h_l := Sl.tr (Dw := False) h_l hk93
      replace h11 := El.tr (Dw := False) h11 hk93
      replace h85 := El.tr (Dw := False) h85 hk93
      replace hr62 := Tr.trans (Dw := False) hr62 hk93
      replace hB := Nat.le_trans hB hk93.ex.size
      replace hA := hk93.new
      replace hH : Hp B A95 w92 (obPS (ob_portref2_ticking) 54 v47 s89 :: obC b29 [v47] 52 :: L) := hH96
      refine C_at (n := ⟨351, [], none⟩) (fun _ _ => rfl) ?_ ha94
      refine C_seq ?_
      refine C_seq ?_
      refine C_region ?_
      obtain ⟨v219, v221, h223, h220, h222⟩ := El_level_Policy h11
      refine V_y (Y_loadA h223 Tryz.isAgg25 Tryz.sizeOf25 rfl) rfl rfl rfl ?_
      have h224 := El_level_Point_4 h85
      refine V_y (Y_fieldAddr Tryz.underlying41 rfl Tryz.sizeOf3 (by decide) rfl) rfl rfl rfl ?_
      refine V_y (Y_load (El.int h224) Tryz.isAgg3 rfl) rfl rfl rfl ?_
      have h225 := El_level_Point_5 h85
      refine V_y (Y_fieldAddr Tryz.underlying41 rfl Tryz.sizeOf39 (by decide) rfl) rfl rfl rfl ?_
      obtain ⟨v226, h227, h228⟩ := El.list h225
      refine V_y (Y_load h227 Tryz.isAgg39 rfl) rfl rfl rfl ?_
      obtain ⟨x229, hx229, ho60⟩ := Option.bind_eq_some_iff.1 ho60
      refine V_call Tryz.call18 rfl rfl rfl rfl (portref2_levelIn_c (Dw := False) w92 hA p v219 h220 v221 h222 x70.priority x70.values v226 h228 hx229) ?_
      rintro _ w230 ⟨rfl, hk231⟩
      have ht232 := Kp.tr (Dw := False) hk231 hA hB
      replace hH := Hp.kp (Dw := False) hH hk231
      replace h_l := Sl.tr (Dw := False) h_l ht232
      replace h11 := El.tr (Dw := False) h11 ht232
      replace h85 := El.tr (Dw := False) h85 ht232
      replace hr62 := Tr.trans (Dw := False) hr62 ht232
      replace hB := Nat.le_trans hB ht232.ex.size
      replace hA := ht232.new
      refine V_y (Y_assign rfl) rfl rfl rfl ?_
      refine V_to (fun _ _ => rfl) ?_
      refine C_seq ?_
      refine C_region ?_
      refine V_y (Y_move rfl) rfl rfl rfl ?_
      refine V_y (Y_move rfl) rfl rfl rfl ?_
      refine V_y (Y_neq rfl rfl) rfl rfl rfl ?_
      refine V_to (fun _ _ => rfl) ?_
      obtain ⟨s234, ho233, ho60⟩ := Option.bind_eq_some_iff.1 ho60
      refine C_cutG (ι := (Nat → Prop)) (fun (A239 : (Nat → Prop)) => [(1, v_l), (2, .pointer (some ⟨b7, 0, none⟩)), (8, .pointer (some ⟨b29, 0, none⟩)), (9, .int .i64 s234.1), (10, .func (.func 12) #[] #[.pointer (some ⟨b29, 0, none⟩)]), (11, .int .i64 (k37 : Int)), (12, .pointer (some ⟨b77, 0, none⟩)), (43, v_l), (44, .int .i64 (l.length : Int)), (45, .int .i64 (k37 : Int))]) (fun (A239 : (Nat → Prop)) => fun w' => Hp B A239 w' (obPS (ob_portref2_ticking) 54 v47 s234.2 :: obC b29 [v47] 52 :: L) ∧ Tr False B A95 w230 A239 w') ?_ ?_
      ·have hr235 : Tr False B A95 w230 A95 w230 := Tr.refl (Dw := False) hA
       refine C_cond rfl (fun hc241 => ?_) (fun hc241 => ?_)
       ·rw [if_pos hc241] at ho233
        refine C_seq ?_
        refine C_region ?_
        refine V_y (Y_move rfl) rfl rfl rfl ?_
        refine V_y (Y_assign rfl) rfl rfl rfl ?_
        refine V_to (fun _ _ => rfl) ?_
        refine C_seq ?_
        refine C_region ?_
        refine V_y (Y_load (Hp.cell (j := 0) hH (i := 1) rfl rfl) Tryz.isAgg52 rfl) rfl rfl rfl ?_
        refine V_y (Y_lenPS (Hp.psForm (f := ob_portref2_ticking) (e := 54) (v := v47) (cs := s89) hH (i := 0) rfl) rfl Tryz.underlying52 rfl) rfl rfl rfl ?_
        refine V_y (Y_move rfl) rfl rfl rfl ?_
        refine V_to (fun _ _ => rfl) ?_
        have hn262 := Hp.psLe (f := ob_portref2_ticking) (e := 54) (v := v47) (cs := s89) hH (i := 0) rfl
        obtain ⟨o242, ho242, ho233⟩ := Option.bind_eq_some_iff.1 ho233
        refine C_cutG (ι := ((List portref2_ticking) × (Nat → Prop))) (fun ⟨s243, A249⟩ => [(1, v_l), (2, .pointer (some ⟨b7, 0, none⟩)), (8, .pointer (some ⟨b29, 0, none⟩)), (9, .int .i64 x229), (10, .func (.func 12) #[] #[.pointer (some ⟨b29, 0, none⟩)]), (11, .int .i64 (k37 : Int)), (12, .pointer (some ⟨b77, 0, none⟩)), (43, v_l), (44, .int .i64 (l.length : Int)), (45, .int .i64 (k37 : Int))]) (fun ⟨s243, A249⟩ => fun w' => o242 = .fin s243 ∧ Hp B A249 w' (obPS (ob_portref2_ticking) 54 v47 s243 :: obC b29 [v47] 52 :: L) ∧ Tr False B A95 w230 A249 w') ?_ ?_
        ·refine C_block ?_
         refine C_range ho242 (fun k245 s251 a w' => ∃ i : (Nat → Prop), Has ⟨351, [], none⟩ a ([(1, v_l), (2, .pointer (some ⟨b7, 0, none⟩)), (8, .pointer (some ⟨b29, 0, none⟩)), (9, .int .i64 x229), (10, .func (.func 12) #[] #[.pointer (some ⟨b29, 0, none⟩)]), (11, .int .i64 (k37 : Int)), (12, .pointer (some ⟨b77, 0, none⟩)), (43, v_l), (44, .int .i64 (l.length : Int)), (45, .int .i64 (k37 : Int)), (120, v47), (121, .int .i64 (s89.length : Int)), (122, .int .i64 (k245 : Int))]) ∧ Hp B i w' (obPS (ob_portref2_ticking) 54 v47 s251 :: obC b29 [v47] 52 :: L) ∧ Tr False B A95 w230 i w') (fun a ha => ⟨A95, ha.sub ⟨rfl, rfl, rfl, rfl, rfl, rfl, rfl, rfl, rfl, rfl, rfl, rfl, rfl, trivial⟩, ⟨hH, Tr.refl (Dw := False) hA⟩⟩) ?_
         rintro K k245 s251 a w252 ⟨A253, ha421, hH254, hr244⟩ hle258 K261 h260
         refine C_of ?_ ha421
         replace h11 := El.tr (Dw := False) h11 hr244
         replace h85 := El.tr (Dw := False) h85 hr244
         replace hB := Nat.le_trans hB hr244.ex.size
         replace hA := hr244.new
         replace hH : Hp B A253 w252 (obPS (ob_portref2_ticking) 54 v47 s251 :: obC b29 [v47] 52 :: L) := hH254
         refine C_seq (C_region (V_y (Y_lss rfl rfl) rfl rfl rfl (V_to (fun _ _ => rfl) ?_)))
         refine C_seq ?_
         refine C_cond rfl (fun hc263 => ?_) (fun hc263 => ?_)
         ·have hlt259 := lt_of_dec hc263
          obtain ⟨x255, h256, h257⟩ := K261 hlt259
          refine C_skip_to (fun _ _ => rfl) ?_
          refine C_seq ?_
          obtain ⟨s265, ho264, h256⟩ := Option.bind_eq_some_iff.1 h256
          refine C_cutG (ι := (Nat → Prop)) (fun (A270 : (Nat → Prop)) => [(1, v_l), (2, .pointer (some ⟨b7, 0, none⟩)), (8, .pointer (some ⟨b29, 0, none⟩)), (9, .int .i64 x229), (10, .func (.func 12) #[] #[.pointer (some ⟨b29, 0, none⟩)]), (11, .int .i64 (k37 : Int)), (12, .pointer (some ⟨b77, 0, none⟩)), (43, v_l), (44, .int .i64 (l.length : Int)), (45, .int .i64 (k37 : Int)), (120, v47), (121, .int .i64 (s89.length : Int)), (122, .int .i64 (k245 : Int))]) (fun (A270 : (Nat → Prop)) => fun w' => Hp B A270 w' (obPS (ob_portref2_ticking) 54 v47 s265 :: obC b29 [v47] 52 :: L) ∧ Tr False B A253 w252 A270 w') ?_ ?_
          ·have hr266 : Tr False B A253 w252 A253 w252 := Tr.refl (Dw := False) hA
           refine C_block ?_
           refine C_seq ?_
           refine C_region ?_
           obtain ⟨x272, hx272, ho264⟩ := Option.bind_eq_some_iff.1 ho264
           refine V_indexAddrPS (f := ob_portref2_ticking) (e := 54) (v := v47) (cs := s251) hH (i := 0) rfl hx272 Tryz.underlying52 Tryz.sizeOf54 rfl rfl rfl ?_
           intro b273 o274 b276 hk277 h275 hH
           replace hH : Hp B A253 w252 (ob_portref2_ticking b276 x272 :: obPX (ob_portref2_ticking) 54 v47 s251 (Int.toNat (k245 : Int)) b276 :: obC b29 [v47] 52 :: L) := hH
           obtain ⟨v278, hH280⟩ := Hp.open (F := obF_portref2_ticking b276 x272) hH
           replace hH : Hp B A253 w252 (obC b276 [.int .i64 x272.c.kind, .int .i64 x272.c.level, .int .i64 x272.c.minutes, .int .i64 x272.c.start, .int .i64 x272.c.stop, .int .i64 x272.c.end_, v278, .int .i64 x272.now, .int .i64 x272.at_, .int .i64 x272.cal] 56 :: obS (α := level_Piece) 67 v278 x272.c.pieces :: obPX (ob_portref2_ticking) 54 v47 s251 (Int.toNat (k245 : Int)) b276 :: obC b29 [v47] 52 :: L) := hH280
           refine V_y (Y_load h275 Tryz.isAgg54 rfl) rfl rfl rfl ?_
           refine V_y (Y_assign rfl) rfl rfl rfl ?_
           refine V_to (fun _ _ => rfl) ?_
           refine C_seq ?_
           refine C_seq ?_
           refine C_region ?_
           refine V_y (Y_move rfl) rfl rfl rfl ?_
           refine V_y (Y_nilCheck rfl) rfl rfl rfl ?_
           refine V_y (Y_fieldAddrC (off2 := 0) Tryz.underlying56 rfl Tryz.sizeOf47 (by decide) rfl rfl) rfl rfl rfl ?_
           refine V_y (Y_fieldAddrC (off2 := 4) Tryz.underlying47 rfl Tryz.sizeOf3 (by decide) rfl rfl) rfl rfl rfl ?_
           refine V_y (Y_load (Hp.cell (j := 4) hH (i := 0) rfl rfl) Tryz.isAgg3 rfl) rfl rfl rfl ?_
           refine V_y (Y_geq rfl rfl) rfl rfl rfl ?_
           refine V_to (fun _ _ => rfl) ?_
           refine C_cond rfl (fun hc281 => ?_) (fun hc281 => ?_)
           ·rw [if_pos hc281] at ho264
            obtain rfl := Option.some.inj ho264
            refine C_exit (fun a ha282 => ?_)
            replace hH : Hp B A253 w252 (obS (α := level_Piece) 67 v278 x272.c.pieces :: obC b276 [.int .i64 x272.c.kind, .int .i64 x272.c.level, .int .i64 x272.c.minutes, .int .i64 x272.c.start, .int .i64 x272.c.stop, .int .i64 x272.c.end_, v278, .int .i64 x272.now, .int .i64 x272.at_, .int .i64 x272.cal] 56 :: obPX (ob_portref2_ticking) 54 v47 s251 (Int.toNat (k245 : Int)) b276 :: obC b29 [v47] 52 :: L) := Hp.front hH (i := 1) rfl
            replace hH : Hp B A253 w252 (obC b276 [.int .i64 x272.c.kind, .int .i64 x272.c.level, .int .i64 x272.c.minutes, .int .i64 x272.c.start, .int .i64 x272.c.stop, .int .i64 x272.c.end_, v278, .int .i64 x272.now, .int .i64 x272.at_, .int .i64 x272.cal] 56 :: obS (α := level_Piece) 67 v278 x272.c.pieces :: obPX (ob_portref2_ticking) 54 v47 s251 (Int.toNat (k245 : Int)) b276 :: obC b29 [v47] 52 :: L) := Hp.front hH (i := 1) rfl
            replace hH : Hp B A253 w252 (ob_portref2_ticking b276 x272 :: obPX (ob_portref2_ticking) 54 v47 s251 (Int.toNat (k245 : Int)) b276 :: obC b29 [v47] 52 :: L) := Hp.pack (F := obF_portref2_ticking b276 x272) v278 hH
            replace hH : Hp B A253 w252 (obPS (ob_portref2_ticking) 54 v47 s251 :: obC b29 [v47] 52 :: L) := Hp.psBack hH (i := 0) rfl hk277
            exact ⟨A253, ha282.sub ⟨rfl, rfl, rfl, rfl, rfl, rfl, rfl, rfl, rfl, rfl, rfl, rfl, rfl, trivial⟩, ⟨hH, hr266⟩⟩
           ·rw [if_neg (nt hc281)] at ho264
            refine C_skip_to (fun _ _ => rfl) ?_
            refine C_seq ?_
            refine C_region_chz (Dw := False) A253 11 [(1, 0), (1, 1), (1, 2), (1, 3), (1, 4), (1, 5), (0, 6), (2, 7), (1, 8), (1, 9), (1, 10)] [(4, 12), (1, 13)] Tryz_mixed (by kernel_rfl) (fun w283 hk284 => ?_)
            have ht285 := Kp.tr (Dw := False) hk284 hA hB
            replace hH := Hp.kp (Dw := False) hH hk284
            replace h11 := El.tr (Dw := False) h11 ht285
            replace h85 := El.tr (Dw := False) h85 ht285
            replace hr266 := Tr.trans (Dw := False) hr266 ht285
            replace hB := Nat.le_trans hB ht285.ex.size
            replace hA := ht285.new
            refine CHZ_q2 (Dw := False) rfl ?_
            obtain ⟨v286, v288, h290, h287, h289⟩ := El_level_Policy h11
            refine VQ_y (fun w' hw' => Y_loadA (At.same h290 (hw'.2 _ h11.2.1 h11.1)) Tryz.isAgg25 Tryz.sizeOf25 rfl) rfl rfl rfl ?_
            refine VQ_CHZ (Dw := False) ?_
            refine CHZ_q2 (Dw := False) rfl ?_
            refine VQ_y (fun w' hw' => Y_move rfl) rfl rfl rfl ?_
            refine VQ_CHZ (Dw := False) ?_
            refine CHZ_q2 (Dw := False) rfl ?_
            refine VQ_y (fun w' hw' => Y_move rfl) rfl rfl rfl ?_
            refine VQ_CHZ (Dw := False) ?_
            refine CHZ_q2 (Dw := False) rfl ?_
            refine VQ_y (fun w' hw' => Y_nilCheck rfl) rfl rfl rfl ?_
            refine VQ_CHZ (Dw := False) ?_
            refine CHZ_q2 (Dw := False) rfl ?_
            refine VQ_y (fun w' hw' => Y_fieldAddrC (off2 := 0) Tryz.underlying56 rfl Tryz.sizeOf47 (by decide) rfl rfl) rfl rfl rfl ?_
            refine VQ_CHZ (Dw := False) ?_
            refine CHZ_q2 (Dw := False) rfl ?_
            refine VQ_y (fun w' hw' => Y_fieldAddrC (off2 := 0) Tryz.underlying47 rfl Tryz.sizeOf3 (by decide) rfl rfl) rfl rfl rfl ?_
            refine VQ_CHZ (Dw := False) ?_
            refine CHZ_q1 (Dw := False) rfl ?_
            refine VQ_y (fun w' hw' => Y_load ((World.cell?_of_block (hw'.block _ (World.block_lt_of_cell? _ _ (Hp.cell (j := 0) hH (i := 0) rfl rfl)))).trans (Hp.cell (j := 0) hH (i := 0) rfl rfl)) Tryz.isAgg3 rfl) rfl rfl rfl ?_
            refine VQ_CHZ (Dw := False) ?_
            refine CHZ_l1 (Dw := False) (k := 0) [(2, 11), (2, 7), (1, 8), (1, 9), (1, 10), (4, 12), (1, 13)] rfl ?_ rfl ?_
            ·refine CH_l1 (Dw := False) (k := 0) rfl ?_
             refine V_allocHk (Dw := False) (B := B) hH Tryz.zeroValue49 hB hA rfl ?_
             intro b291 w292 A293 hk296 hH294 ht295
             replace h85 := El.tr (Dw := False) h85 ht295
             replace h287 := Sl.tr (Dw := False) h287 ht295
             replace h289 := Sl.tr (Dw := False) h289 ht295
             replace hr266 := Tr.trans (Dw := False) hr266 ht295
             replace hB := Nat.le_trans hB ht295.ex.size
             replace hA := ht295.new
             replace hH : Hp B A293 w292 (obC b291 [.int .i64 0, .int .i64 0, .int .i64 0] 49 :: obC b276 [.int .i64 x272.c.kind, .int .i64 x272.c.level, .int .i64 x272.c.minutes, .int .i64 x272.c.start, .int .i64 x272.c.stop, .int .i64 x272.c.end_, v278, .int .i64 x272.now, .int .i64 x272.at_, .int .i64 x272.cal] 56 :: obS (α := level_Piece) 67 v278 x272.c.pieces :: obPX (ob_portref2_ticking) 54 v47 s251 (Int.toNat (k245 : Int)) b276 :: obC b29 [v47] 52 :: L) := hH294
             refine V_CH (Dw := False) (hk296) ?_
             refine CH_l1 (Dw := False) (k := 0) rfl ?_
             obtain ⟨x297, hx297, ho264⟩ := Option.bind_eq_some_iff.1 ho264
             refine V_call Tryz.call19 rfl rfl rfl rfl (portref2_targetOf_c (Dw := False) w292 hA p v286 h287 v288 h289 x229 x272.c.kind hx297) ?_
             rintro _ w298 ⟨rfl, hk299⟩
             have ht300 := Kp.tr (Dw := False) hk299 hA hB
             replace hH := Hp.kp (Dw := False) hH hk299
             replace h85 := El.tr (Dw := False) h85 ht300
             replace hr266 := Tr.trans (Dw := False) hr266 ht300
             replace hB := Nat.le_trans hB ht300.ex.size
             replace hA := ht300.new
             refine V_CH (Dw := False) (hk299) ?_
             refine CH_q2 (Dw := False) rfl ?_
             refine VQ_y (fun w' hw' => Y_move rfl) rfl rfl rfl ?_
             refine VQ_CH (Dw := False) ?_
             refine CH_q2 (Dw := False) rfl ?_
             refine VQ_y (fun w' hw' => Y_extract rfl rfl) rfl rfl rfl ?_
             refine VQ_CH (Dw := False) ?_
             refine CH_q2 (Dw := False) rfl ?_
             refine VQ_y (fun w' hw' => Y_extract rfl rfl) rfl rfl rfl ?_
             refine VQ_CH (Dw := False) ?_
             refine CH_l1 (Dw := False) (k := 2) rfl ?_
             refine V_storeC (Dw := False) (off := 0) (ds := [.int .i64 x297.1.kind, .int .i64 x297.1.minutes, .int .i64 x297.1.calendar]) hH (i := 0) rfl Tryz.sizeOf49 rfl (Nat.le_of_ble_eq_true rfl) (by simp [Value.cells, Value.oneCell']) rfl hB hA rfl rfl ?_
             intro w301 hH302 ht303
             replace h85 := El.tr (Dw := False) h85 ht303
             replace hr266 := Tr.trans (Dw := False) hr266 ht303
             replace hB := Nat.le_trans hB ht303.ex.size
             replace hA := ht303.new
             replace hH : Hp B A293 w301 (obC b291 [.int .i64 x297.1.kind, .int .i64 x297.1.minutes, .int .i64 x297.1.calendar] 49 :: obC b276 [.int .i64 x272.c.kind, .int .i64 x272.c.level, .int .i64 x272.c.minutes, .int .i64 x272.c.start, .int .i64 x272.c.stop, .int .i64 x272.c.end_, v278, .int .i64 x272.now, .int .i64 x272.at_, .int .i64 x272.cal] 56 :: obS (α := level_Piece) 67 v278 x272.c.pieces :: obPX (ob_portref2_ticking) 54 v47 s251 (Int.toNat (k245 : Int)) b276 :: obC b29 [v47] 52 :: L) := hH302
             obtain ⟨A304, ht305, h306, hH307⟩ := Hp.freezeC (Dw := False) (α := level_Target) (x := x297.1) hH (i := 0) rfl hA (by exact ⟨[.int .i64 x297.1.kind], _, rfl, rfl, ⟨[.int .i64 x297.1.minutes], _, rfl, rfl, rfl⟩⟩)
             replace h85 := El.tr (Dw := False) h85 ht305
             replace hr266 := Tr.trans (Dw := False) hr266 ht305
             replace hB := Nat.le_trans hB ht305.ex.size
             replace hA := ht305.new
             replace hH : Hp B A304 w301 (obC b276 [.int .i64 x272.c.kind, .int .i64 x272.c.level, .int .i64 x272.c.minutes, .int .i64 x272.c.start, .int .i64 x272.c.stop, .int .i64 x272.c.end_, v278, .int .i64 x272.now, .int .i64 x272.at_, .int .i64 x272.cal] 56 :: obS (α := level_Piece) 67 v278 x272.c.pieces :: obPX (ob_portref2_ticking) 54 v47 s251 (Int.toNat (k245 : Int)) b276 :: obC b29 [v47] 52 :: L) := hH307
             refine V_CHw (Dw := False) ?_
             refine CH_q2 (Dw := False) rfl ?_
             refine VQ_y (fun w' hw' => Y_assign rfl) rfl rfl rfl ?_
             refine VQ_CH (Dw := False) ?_
             refine CH_tail (Dw := False) ?_
             show V _ _ _ _ [] _ _
             refine V_to (fun _ _ => rfl) ?_
             refine C_seq ?_
             refine C_seq ?_
             refine C_region ?_
             refine V_y (Y_move rfl) rfl rfl rfl ?_
             refine V_y (Y_not rfl) rfl rfl rfl ?_
             refine V_to (fun _ _ => rfl) ?_
             refine C_cond rfl (fun hc308 => ?_) (fun hc308 => ?_)
             ·rw [if_pos hc308] at ho264
              refine C_seq ?_
              refine C_region ?_
              refine V_y (Y_move rfl) rfl rfl rfl ?_
              have h309 := El_level_Point_0 h85
              refine V_y (Y_fieldAddr Tryz.underlying41 rfl Tryz.sizeOf3 (by decide) rfl) rfl rfl rfl ?_
              refine V_y (Y_load (El.int h309) Tryz.isAgg3 rfl) rfl rfl rfl ?_
              replace hH : Hp B A304 w301 (obS (α := level_Piece) 67 v278 x272.c.pieces :: obC b276 [.int .i64 x272.c.kind, .int .i64 x272.c.level, .int .i64 x272.c.minutes, .int .i64 x272.c.start, .int .i64 x272.c.stop, .int .i64 x272.c.end_, v278, .int .i64 x272.now, .int .i64 x272.at_, .int .i64 x272.cal] 56 :: obPX (ob_portref2_ticking) 54 v47 s251 (Int.toNat (k245 : Int)) b276 :: obC b29 [v47] 52 :: L) := Hp.front hH (i := 1) rfl
              replace hH : Hp B A304 w301 (obC b276 [.int .i64 x272.c.kind, .int .i64 x272.c.level, .int .i64 x272.c.minutes, .int .i64 x272.c.start, .int .i64 x272.c.stop, .int .i64 x272.c.end_, v278, .int .i64 x272.now, .int .i64 x272.at_, .int .i64 x272.cal] 56 :: obS (α := level_Piece) 67 v278 x272.c.pieces :: obPX (ob_portref2_ticking) 54 v47 s251 (Int.toNat (k245 : Int)) b276 :: obC b29 [v47] 52 :: L) := Hp.front hH (i := 1) rfl
              obtain ⟨x310, hx310, ho264⟩ := Option.bind_eq_some_iff.1 ho264
              refine V_call Tryz.call16 rfl rfl rfl rfl (portref2_ticking_end_c (Dw := False) w301 hB hA x272 b276 v278 x70.at_ 2 hH hx310) ?_
              rintro _ w313 ⟨v311, A314, rfl, hH315, ht316⟩
              replace hr266 := Tr.trans (Dw := False) hr266 ht316
              replace hH : Hp B A314 w313 (obC b276 [.int .i64 x310.c.kind, .int .i64 x310.c.level, .int .i64 x310.c.minutes, .int .i64 x310.c.start, .int .i64 x310.c.stop, .int .i64 x310.c.end_, v311, .int .i64 x310.now, .int .i64 x310.at_, .int .i64 x310.cal] 56 :: obS (α := level_Piece) 67 v311 x310.c.pieces :: obPX (ob_portref2_ticking) 54 v47 s251 (Int.toNat (k245 : Int)) b276 :: obC b29 [v47] 52 :: L) := hH315
              refine V_to (fun _ _ => rfl) ?_
              obtain rfl := Option.some.inj ho264
              refine C_exit (fun a ha317 => ?_)
              replace hH : Hp B A314 w313 (obS (α := level_Piece) 67 v311 x310.c.pieces :: obC b276 [.int .i64 x310.c.kind, .int .i64 x310.c.level, .int .i64 x310.c.minutes, .int .i64 x310.c.start, .int .i64 x310.c.stop, .int .i64 x310.c.end_, v311, .int .i64 x310.now, .int .i64 x310.at_, .int .i64 x310.cal] 56 :: obPX (ob_portref2_ticking) 54 v47 s251 (Int.toNat (k245 : Int)) b276 :: obC b29 [v47] 52 :: L) := Hp.front hH (i := 1) rfl
              replace hH : Hp B A314 w313 (obC b276 [.int .i64 x310.c.kind, .int .i64 x310.c.level, .int .i64 x310.c.minutes, .int .i64 x310.c.start, .int .i64 x310.c.stop, .int .i64 x310.c.end_, v311, .int .i64 x310.now, .int .i64 x310.at_, .int .i64 x310.cal] 56 :: obS (α := level_Piece) 67 v311 x310.c.pieces :: obPX (ob_portref2_ticking) 54 v47 s251 (Int.toNat (k245 : Int)) b276 :: obC b29 [v47] 52 :: L) := Hp.front hH (i := 1) rfl
              replace hH : Hp B A314 w313 (ob_portref2_ticking b276 x310 :: obPX (ob_portref2_ticking) 54 v47 s251 (Int.toNat (k245 : Int)) b276 :: obC b29 [v47] 52 :: L) := Hp.pack (F := obF_portref2_ticking b276 x310) v311 hH
              replace hH : Hp B A314 w313 (obPS (ob_portref2_ticking) 54 v47 (List.set s251 (Int.toNat (k245 : Int)) x310) :: obC b29 [v47] 52 :: L) := Hp.psClose hH (i := 0) rfl hk277
              exact ⟨A314, ha317.sub ⟨rfl, rfl, rfl, rfl, rfl, rfl, rfl, rfl, rfl, rfl, rfl, rfl, rfl, trivial⟩, ⟨hH, hr266⟩⟩
             ·rw [if_neg (nt hc308)] at ho264
              refine C_skip_to (fun _ _ => rfl) ?_
              refine C_seq ?_
              refine C_region_ch (Dw := False) A304 19 [(1, 0), (1, 1), (1, 2), (1, 3), (1, 4), (1, 5), (1, 6), (1, 7), (1, 8), (1, 9), (1, 10), (3, 11), (1, 12), (1, 13), (1, 14), (3, 15), (1, 16), (1, 17), (3, 18)] Tryz_mixed (by kernel_rfl) (fun w318 hk319 => ?_)
              have ht320 := Kp.tr (Dw := False) hk319 hA hB
              replace hH := Hp.kp (Dw := False) hH hk319
              replace h85 := El.tr (Dw := False) h85 ht320
              replace h306 := El.tr (Dw := False) h306 ht320
              replace hr266 := Tr.trans (Dw := False) hr266 ht320
              replace hB := Nat.le_trans hB ht320.ex.size
              replace hA := ht320.new
              refine CH_q2 (Dw := False) rfl ?_
              refine VQ_y (fun w' hw' => Y_move rfl) rfl rfl rfl ?_
              refine VQ_CH (Dw := False) ?_
              refine CH_q2 (Dw := False) rfl ?_
              refine VQ_y (fun w' hw' => Y_move rfl) rfl rfl rfl ?_
              refine VQ_CH (Dw := False) ?_
              refine CH_q2 (Dw := False) rfl ?_
              refine VQ_y (fun w' hw' => Y_move rfl) rfl rfl rfl ?_
              refine VQ_CH (Dw := False) ?_
              refine CH_q2 (Dw := False) rfl ?_
              refine VQ_y (fun w' hw' => Y_move rfl) rfl rfl rfl ?_
              refine VQ_CH (Dw := False) ?_
              refine CH_q2 (Dw := False) rfl ?_
              have h321 := El_level_Target_1 h306
              refine VQ_y (fun w' hw' => Y_fieldAddr Tryz.underlying49 rfl Tryz.sizeOf3 (by decide) rfl) rfl rfl rfl ?_
              refine VQ_CH (Dw := False) ?_
              refine CH_q2 (Dw := False) rfl ?_
              refine VQ_y (fun w' hw' => Y_load (El.int (El.keep h321 (XA.ex hw'))) Tryz.isAgg3 rfl) rfl rfl rfl ?_
              refine VQ_CH (Dw := False) ?_
              refine CH_q2 (Dw := False) rfl ?_
              have h322 := El_level_Target_2 h306
              refine VQ_y (fun w' hw' => Y_fieldAddr Tryz.underlying49 rfl Tryz.sizeOf3 (by decide) rfl) rfl rfl rfl ?_
              refine VQ_CH (Dw := False) ?_
              refine CH_q2 (Dw := False) rfl ?_
              refine VQ_y (fun w' hw' => Y_load (El.int (El.keep h322 (XA.ex hw'))) Tryz.isAgg3 rfl) rfl rfl rfl ?_
              refine VQ_CH (Dw := False) ?_
              refine CH_q2 (Dw := False) rfl ?_
              refine VQ_y (fun w' hw' => Y_nilCheck rfl) rfl rfl rfl ?_
              refine VQ_CH (Dw := False) ?_
              refine CH_q2 (Dw := False) rfl ?_
              refine VQ_y (fun w' hw' => Y_fieldAddrC (off2 := 0) Tryz.underlying56 rfl Tryz.sizeOf47 (by decide) rfl rfl) rfl rfl rfl ?_
              refine VQ_CH (Dw := False) ?_
              refine CH_q2 (Dw := False) rfl ?_
              refine VQ_y (fun w' hw' => Y_fieldAddrC (off2 := 1) Tryz.underlying47 rfl Tryz.sizeOf3 (by decide) rfl rfl) rfl rfl rfl ?_
              refine VQ_CH (Dw := False) ?_
              refine CH_l1 (Dw := False) (k := 1) rfl ?_
              refine V_storeC (Dw := False) (off := 1) (ds := [.int .i64 x272.c.kind, .int .i64 x229, .int .i64 x272.c.minutes, .int .i64 x272.c.start, .int .i64 x272.c.stop, .int .i64 x272.c.end_, v278, .int .i64 x272.now, .int .i64 x272.at_, .int .i64 x272.cal]) hH (i := 0) rfl Tryz.sizeOf3 rfl (Nat.le_of_ble_eq_true rfl) (by simp [Value.cells, Value.oneCell']) rfl hB hA rfl rfl ?_
              intro w323 hH324 ht325
              replace h85 := El.tr (Dw := False) h85 ht325
              replace h306 := El.tr (Dw := False) h306 ht325
              replace hr266 := Tr.trans (Dw := False) hr266 ht325
              replace hB := Nat.le_trans hB ht325.ex.size
              replace hA := ht325.new
              replace hH : Hp B A304 w323 (obC b276 [.int .i64 x272.c.kind, .int .i64 x229, .int .i64 x272.c.minutes, .int .i64 x272.c.start, .int .i64 x272.c.stop, .int .i64 x272.c.end_, v278, .int .i64 x272.now, .int .i64 x272.at_, .int .i64 x272.cal] 56 :: obS (α := level_Piece) 67 v278 x272.c.pieces :: obPX (ob_portref2_ticking) 54 v47 s251 (Int.toNat (k245 : Int)) b276 :: obC b29 [v47] 52 :: L) := hH324
              refine V_CHx (Dw := False) (XA.tr (Dw := False) ht325) ?_
              refine CH_q2 (Dw := False) rfl ?_
              refine VQ_y (fun w' hw' => Y_nilCheck rfl) rfl rfl rfl ?_
              refine VQ_CH (Dw := False) ?_
              refine CH_q2 (Dw := False) rfl ?_
              refine VQ_y (fun w' hw' => Y_fieldAddrC (off2 := 0) Tryz.underlying56 rfl Tryz.sizeOf47 (by decide) rfl rfl) rfl rfl rfl ?_
              refine VQ_CH (Dw := False) ?_
              refine CH_q2 (Dw := False) rfl ?_
              refine VQ_y (fun w' hw' => Y_fieldAddrC (off2 := 2) Tryz.underlying47 rfl Tryz.sizeOf3 (by decide) rfl rfl) rfl rfl rfl ?_
              refine VQ_CH (Dw := False) ?_
              refine CH_l1 (Dw := False) (k := 1) rfl ?_
              refine V_storeC (Dw := False) (off := 2) (ds := [.int .i64 x272.c.kind, .int .i64 x229, .int .i64 x297.1.minutes, .int .i64 x272.c.start, .int .i64 x272.c.stop, .int .i64 x272.c.end_, v278, .int .i64 x272.now, .int .i64 x272.at_, .int .i64 x272.cal]) hH (i := 0) rfl Tryz.sizeOf3 rfl (Nat.le_of_ble_eq_true rfl) (by simp [Value.cells, Value.oneCell']) rfl hB hA rfl rfl ?_
              intro w326 hH327 ht328
              replace h85 := El.tr (Dw := False) h85 ht328
              replace h306 := El.tr (Dw := False) h306 ht328
              replace hr266 := Tr.trans (Dw := False) hr266 ht328
              replace hB := Nat.le_trans hB ht328.ex.size
              replace hA := ht328.new
              replace hH : Hp B A304 w326 (obC b276 [.int .i64 x272.c.kind, .int .i64 x229, .int .i64 x297.1.minutes, .int .i64 x272.c.start, .int .i64 x272.c.stop, .int .i64 x272.c.end_, v278, .int .i64 x272.now, .int .i64 x272.at_, .int .i64 x272.cal] 56 :: obS (α := level_Piece) 67 v278 x272.c.pieces :: obPX (ob_portref2_ticking) 54 v47 s251 (Int.toNat (k245 : Int)) b276 :: obC b29 [v47] 52 :: L) := hH327
              refine V_CHx (Dw := False) (XA.tr (Dw := False) ht328) ?_
              refine CH_q2 (Dw := False) rfl ?_
              refine VQ_y (fun w' hw' => Y_nilCheck rfl) rfl rfl rfl ?_
              refine VQ_CH (Dw := False) ?_
              refine CH_q2 (Dw := False) rfl ?_
              refine VQ_y (fun w' hw' => Y_fieldAddrC (off2 := 9) Tryz.underlying56 rfl Tryz.sizeOf3 (by decide) rfl rfl) rfl rfl rfl ?_
              refine VQ_CH (Dw := False) ?_
              refine CH_l1 (Dw := False) (k := 1) rfl ?_
              refine V_storeC (Dw := False) (off := 9) (ds := [.int .i64 x272.c.kind, .int .i64 x229, .int .i64 x297.1.minutes, .int .i64 x272.c.start, .int .i64 x272.c.stop, .int .i64 x272.c.end_, v278, .int .i64 x272.now, .int .i64 x272.at_, .int .i64 x297.1.calendar]) hH (i := 0) rfl Tryz.sizeOf3 rfl (Nat.le_of_ble_eq_true rfl) (by simp [Value.cells, Value.oneCell']) rfl hB hA rfl rfl ?_
              intro w329 hH330 ht331
              replace h85 := El.tr (Dw := False) h85 ht331
              replace h306 := El.tr (Dw := False) h306 ht331
              replace hr266 := Tr.trans (Dw := False) hr266 ht331
              replace hB := Nat.le_trans hB ht331.ex.size
              replace hA := ht331.new
              replace hH : Hp B A304 w329 (obC b276 [.int .i64 x272.c.kind, .int .i64 x229, .int .i64 x297.1.minutes, .int .i64 x272.c.start, .int .i64 x272.c.stop, .int .i64 x272.c.end_, v278, .int .i64 x272.now, .int .i64 x272.at_, .int .i64 x297.1.calendar] 56 :: obS (α := level_Piece) 67 v278 x272.c.pieces :: obPX (ob_portref2_ticking) 54 v47 s251 (Int.toNat (k245 : Int)) b276 :: obC b29 [v47] 52 :: L) := hH330
              refine V_CHx (Dw := False) (XA.tr (Dw := False) ht331) ?_
              refine CH_tail (Dw := False) ?_
              show V _ _ _ _ [] _ _
              refine V_to (fun _ _ => rfl) ?_
              refine C_seq ?_
              refine C_region ?_
              refine V_y (Y_move rfl) rfl rfl rfl ?_
              refine V_y (Y_nilCheck rfl) rfl rfl rfl ?_
              refine V_y (Y_fieldAddrC (off2 := 7) Tryz.underlying56 rfl Tryz.sizeOf3 (by decide) rfl rfl) rfl rfl rfl ?_
              refine V_y (Y_load (Hp.cell (j := 7) hH (i := 0) rfl rfl) Tryz.isAgg3 rfl) rfl rfl rfl ?_
              refine V_y (Y_geq rfl rfl) rfl rfl rfl ?_
              refine V_to (fun _ _ => rfl) ?_
              obtain ⟨s333, ho332, ho264⟩ := Option.bind_eq_some_iff.1 ho264
              refine C_cutG (ι := (Value × (Nat → Prop))) (fun ⟨v335, A340⟩ => [(1, v_l), (2, .pointer (some ⟨b7, 0, none⟩)), (8, .pointer (some ⟨b29, 0, none⟩)), (9, .int .i64 x229), (10, .func (.func 12) #[] #[.pointer (some ⟨b29, 0, none⟩)]), (11, .int .i64 (k37 : Int)), (12, .pointer (some ⟨b77, 0, none⟩)), (43, v_l), (44, .int .i64 (l.length : Int)), (45, .int .i64 (k37 : Int)), (120, v47), (121, .int .i64 (s89.length : Int)), (122, .int .i64 (k245 : Int))]) (fun ⟨v335, A340⟩ => fun w' => Hp B A340 w' (obC b276 [.int .i64 s333.c.kind, .int .i64 s333.c.level, .int .i64 s333.c.minutes, .int .i64 s333.c.start, .int .i64 s333.c.stop, .int .i64 s333.c.end_, v335, .int .i64 s333.now, .int .i64 s333.at_, .int .i64 s333.cal] 56 :: obS (α := level_Piece) 67 v335 s333.c.pieces :: obPX (ob_portref2_ticking) 54 v47 s251 (Int.toNat (k245 : Int)) b276 :: obC b29 [v47] 52 :: L) ∧ Tr False B A304 w329 A340 w') ?_ ?_
              ·have hr334 : Tr False B A304 w329 A304 w329 := Tr.refl (Dw := False) hA
               refine C_cond rfl (fun hc342 => ?_) (fun hc342 => ?_)
               ·rw [if_pos hc342] at ho332
                refine C_region ?_
                refine V_y (Y_move rfl) rfl rfl rfl ?_
                have h343 := El_level_Point_0 h85
                refine V_y (Y_fieldAddr Tryz.underlying41 rfl Tryz.sizeOf3 (by decide) rfl) rfl rfl rfl ?_
                refine V_y (Y_load (El.int h343) Tryz.isAgg3 rfl) rfl rfl rfl ?_
                have h344 := El_level_Target_2 h306
                refine V_y (Y_fieldAddr Tryz.underlying49 rfl Tryz.sizeOf3 (by decide) rfl) rfl rfl rfl ?_
                refine V_y (Y_load (El.int h344) Tryz.isAgg3 rfl) rfl rfl rfl ?_
                replace hH : Hp B A304 w329 (obS (α := level_Piece) 67 v278 x272.c.pieces :: obC b276 [.int .i64 x272.c.kind, .int .i64 x229, .int .i64 x297.1.minutes, .int .i64 x272.c.start, .int .i64 x272.c.stop, .int .i64 x272.c.end_, v278, .int .i64 x272.now, .int .i64 x272.at_, .int .i64 x297.1.calendar] 56 :: obPX (ob_portref2_ticking) 54 v47 s251 (Int.toNat (k245 : Int)) b276 :: obC b29 [v47] 52 :: L) := Hp.front hH (i := 1) rfl
                replace hH : Hp B A304 w329 (obC b276 [.int .i64 x272.c.kind, .int .i64 x229, .int .i64 x297.1.minutes, .int .i64 x272.c.start, .int .i64 x272.c.stop, .int .i64 x272.c.end_, v278, .int .i64 x272.now, .int .i64 x272.at_, .int .i64 x297.1.calendar] 56 :: obS (α := level_Piece) 67 v278 x272.c.pieces :: obPX (ob_portref2_ticking) 54 v47 s251 (Int.toNat (k245 : Int)) b276 :: obC b29 [v47] 52 :: L) := Hp.front hH (i := 1) rfl
                obtain ⟨x345, hx345, ho332⟩ := Option.bind_eq_some_iff.1 ho332
                refine V_call Tryz.call20 rfl rfl rfl rfl (portref2_ticking_turn_c (Dw := False) w329 hB hA (⟨(⟨x272.c.kind, x229, x297.1.minutes, x272.c.start, x272.c.stop, x272.c.end_, x272.c.pieces⟩ : level_Clock), x272.now, x272.at_, x297.1.calendar⟩ : portref2_ticking) b276 v278 x70.at_ x297.1.calendar hH hx345) ?_
                rintro _ w348 ⟨v346, A349, rfl, hH350, ht351⟩
                replace hr334 := Tr.trans (Dw := False) hr334 ht351
                replace hH : Hp B A349 w348 (obC b276 [.int .i64 x345.c.kind, .int .i64 x345.c.level, .int .i64 x345.c.minutes, .int .i64 x345.c.start, .int .i64 x345.c.stop, .int .i64 x345.c.end_, v346, .int .i64 x345.now, .int .i64 x345.at_, .int .i64 x345.cal] 56 :: obS (α := level_Piece) 67 v346 x345.c.pieces :: obPX (ob_portref2_ticking) 54 v47 s251 (Int.toNat (k245 : Int)) b276 :: obC b29 [v47] 52 :: L) := hH350
                obtain rfl := Option.some.inj ho332
                refine V_end (fun a ha352 => ?_)
                exact ⟨(v346, A349), ha352.sub ⟨rfl, rfl, rfl, rfl, rfl, rfl, rfl, rfl, rfl, rfl, rfl, rfl, rfl, trivial⟩, ⟨hH, hr334⟩⟩
               ·rw [if_neg (nt hc342)] at ho332
                obtain rfl := Option.some.inj ho332
                refine C_skip (fun a ha353 => ?_)
                exact ⟨(v278, A304), ha353.sub ⟨rfl, rfl, rfl, rfl, rfl, rfl, rfl, rfl, rfl, rfl, rfl, rfl, rfl, trivial⟩, ⟨hH, hr334⟩⟩
              rintro ⟨v335, A340⟩ w337 ⟨hH341, hk338⟩ a ha339
              replace hr266 := Tr.trans (Dw := False) hr266 hk338
              replace hA := hk338.new
              replace hH : Hp B A340 w337 (obC b276 [.int .i64 s333.c.kind, .int .i64 s333.c.level, .int .i64 s333.c.minutes, .int .i64 s333.c.start, .int .i64 s333.c.stop, .int .i64 s333.c.end_, v335, .int .i64 s333.now, .int .i64 s333.at_, .int .i64 s333.cal] 56 :: obS (α := level_Piece) 67 v335 s333.c.pieces :: obPX (ob_portref2_ticking) 54 v47 s251 (Int.toNat (k245 : Int)) b276 :: obC b29 [v47] 52 :: L) := hH341
              obtain rfl := Option.some.inj ho264
              replace hH : Hp B A340 w337 (obS (α := level_Piece) 67 v335 s333.c.pieces :: obC b276 [.int .i64 s333.c.kind, .int .i64 s333.c.level, .int .i64 s333.c.minutes, .int .i64 s333.c.start, .int .i64 s333.c.stop, .int .i64 s333.c.end_, v335, .int .i64 s333.now, .int .i64 s333.at_, .int .i64 s333.cal] 56 :: obPX (ob_portref2_ticking) 54 v47 s251 (Int.toNat (k245 : Int)) b276 :: obC b29 [v47] 52 :: L) := Hp.front hH (i := 1) rfl
              replace hH : Hp B A340 w337 (obC b276 [.int .i64 s333.c.kind, .int .i64 s333.c.level, .int .i64 s333.c.minutes, .int .i64 s333.c.start, .int .i64 s333.c.stop, .int .i64 s333.c.end_, v335, .int .i64 s333.now, .int .i64 s333.at_, .int .i64 s333.cal] 56 :: obS (α := level_Piece) 67 v335 s333.c.pieces :: obPX (ob_portref2_ticking) 54 v47 s251 (Int.toNat (k245 : Int)) b276 :: obC b29 [v47] 52 :: L) := Hp.front hH (i := 1) rfl
              replace hH : Hp B A340 w337 (ob_portref2_ticking b276 s333 :: obPX (ob_portref2_ticking) 54 v47 s251 (Int.toNat (k245 : Int)) b276 :: obC b29 [v47] 52 :: L) := Hp.pack (F := obF_portref2_ticking b276 s333) v335 hH
              replace hH : Hp B A340 w337 (obPS (ob_portref2_ticking) 54 v47 (List.set s251 (Int.toNat (k245 : Int)) s333) :: obC b29 [v47] 52 :: L) := Hp.psClose hH (i := 0) rfl hk277
              exact ⟨A340, ha339.sub ⟨rfl, rfl, rfl, rfl, rfl, rfl, rfl, rfl, rfl, rfl, rfl, rfl, rfl, trivial⟩, ⟨hH, hr266⟩⟩
            obtain ⟨x355, hx355, ho264⟩ := Option.bind_eq_some_iff.1 ho264
            refine V_call Tryz.call19 rfl rfl rfl rfl (portref2_targetOf_c (Dw := False) w283 hA p v286 h287 v288 h289 x229 x272.c.kind hx355) ?_
            rintro _ w356 ⟨rfl, hk357⟩
            have ht358 := Kp.tr (Dw := False) hk357 hA hB
            replace hH := Hp.kp (Dw := False) hH hk357
            replace h85 := El.tr (Dw := False) h85 ht358
            replace hr266 := Tr.trans (Dw := False) hr266 ht358
            replace hB := Nat.le_trans hB ht358.ex.size
            replace hA := ht358.new
            refine V_CHZ (Dw := False) (hk357) ?_
            refine CHZ_q2 (Dw := False) rfl ?_
            refine VQ_y (fun w' hw' => Y_move rfl) rfl rfl rfl ?_
            refine VQ_CHZ (Dw := False) ?_
            refine CHZ_q2 (Dw := False) rfl ?_
            refine VQ_y (fun w' hw' => Y_extract rfl rfl) rfl rfl rfl ?_
            refine VQ_CHZ (Dw := False) ?_
            refine CHZ_q2 (Dw := False) rfl ?_
            refine VQ_y (fun w' hw' => Y_extract rfl rfl) rfl rfl rfl ?_
            refine VQ_CHZ (Dw := False) ?_
            refine CHZ_nil (Dw := False) ?_
            refine CH_l1 (Dw := False) (k := 0) rfl ?_
            refine V_allocHk (Dw := False) (B := B) hH Tryz.zeroValue49 hB hA rfl ?_
            intro b359 w360 A361 hk364 hH362 ht363
            replace h85 := El.tr (Dw := False) h85 ht363
            replace hr266 := Tr.trans (Dw := False) hr266 ht363
            replace hB := Nat.le_trans hB ht363.ex.size
            replace hA := ht363.new
            replace hH : Hp B A361 w360 (obC b359 [.int .i64 0, .int .i64 0, .int .i64 0] 49 :: obC b276 [.int .i64 x272.c.kind, .int .i64 x272.c.level, .int .i64 x272.c.minutes, .int .i64 x272.c.start, .int .i64 x272.c.stop, .int .i64 x272.c.end_, v278, .int .i64 x272.now, .int .i64 x272.at_, .int .i64 x272.cal] 56 :: obS (α := level_Piece) 67 v278 x272.c.pieces :: obPX (ob_portref2_ticking) 54 v47 s251 (Int.toNat (k245 : Int)) b276 :: obC b29 [v47] 52 :: L) := hH362
            refine V_CH (Dw := False) (hk364) ?_
            refine CH_l1 (Dw := False) (k := 2) rfl ?_
            refine V_storeC (Dw := False) (off := 0) (ds := [.int .i64 x355.1.kind, .int .i64 x355.1.minutes, .int .i64 x355.1.calendar]) hH (i := 0) rfl Tryz.sizeOf49 rfl (Nat.le_of_ble_eq_true rfl) (by simp [Value.cells, Value.oneCell']) rfl hB hA rfl rfl ?_
            intro w365 hH366 ht367
            replace h85 := El.tr (Dw := False) h85 ht367
            replace hr266 := Tr.trans (Dw := False) hr266 ht367
            replace hB := Nat.le_trans hB ht367.ex.size
            replace hA := ht367.new
            replace hH : Hp B A361 w365 (obC b359 [.int .i64 x355.1.kind, .int .i64 x355.1.minutes, .int .i64 x355.1.calendar] 49 :: obC b276 [.int .i64 x272.c.kind, .int .i64 x272.c.level, .int .i64 x272.c.minutes, .int .i64 x272.c.start, .int .i64 x272.c.stop, .int .i64 x272.c.end_, v278, .int .i64 x272.now, .int .i64 x272.at_, .int .i64 x272.cal] 56 :: obS (α := level_Piece) 67 v278 x272.c.pieces :: obPX (ob_portref2_ticking) 54 v47 s251 (Int.toNat (k245 : Int)) b276 :: obC b29 [v47] 52 :: L) := hH366
            obtain ⟨A368, ht369, h370, hH371⟩ := Hp.freezeC (Dw := False) (α := level_Target) (x := x355.1) hH (i := 0) rfl hA (by exact ⟨[.int .i64 x355.1.kind], _, rfl, rfl, ⟨[.int .i64 x355.1.minutes], _, rfl, rfl, rfl⟩⟩)
            replace h85 := El.tr (Dw := False) h85 ht369
            replace hr266 := Tr.trans (Dw := False) hr266 ht369
            replace hB := Nat.le_trans hB ht369.ex.size
            replace hA := ht369.new
            replace hH : Hp B A368 w365 (obC b276 [.int .i64 x272.c.kind, .int .i64 x272.c.level, .int .i64 x272.c.minutes, .int .i64 x272.c.start, .int .i64 x272.c.stop, .int .i64 x272.c.end_, v278, .int .i64 x272.now, .int .i64 x272.at_, .int .i64 x272.cal] 56 :: obS (α := level_Piece) 67 v278 x272.c.pieces :: obPX (ob_portref2_ticking) 54 v47 s251 (Int.toNat (k245 : Int)) b276 :: obC b29 [v47] 52 :: L) := hH371
            refine V_CHw (Dw := False) ?_
            refine CH_q2 (Dw := False) rfl ?_
            refine VQ_y (fun w' hw' => Y_assign rfl) rfl rfl rfl ?_
            refine VQ_CH (Dw := False) ?_
            refine CH_tail (Dw := False) ?_
            show V _ _ _ _ [] _ _
            refine V_to (fun _ _ => rfl) ?_
            refine C_seq ?_
            refine C_seq ?_
            refine C_region ?_
            refine V_y (Y_move rfl) rfl rfl rfl ?_
            refine V_y (Y_not rfl) rfl rfl rfl ?_
            refine V_to (fun _ _ => rfl) ?_
            refine C_cond rfl (fun hc372 => ?_) (fun hc372 => ?_)
            ·rw [if_pos hc372] at ho264
             refine C_seq ?_
             refine C_region ?_
             refine V_y (Y_move rfl) rfl rfl rfl ?_
             have h373 := El_level_Point_0 h85
             refine V_y (Y_fieldAddr Tryz.underlying41 rfl Tryz.sizeOf3 (by decide) rfl) rfl rfl rfl ?_
             refine V_y (Y_load (El.int h373) Tryz.isAgg3 rfl) rfl rfl rfl ?_
             replace hH : Hp B A368 w365 (obS (α := level_Piece) 67 v278 x272.c.pieces :: obC b276 [.int .i64 x272.c.kind, .int .i64 x272.c.level, .int .i64 x272.c.minutes, .int .i64 x272.c.start, .int .i64 x272.c.stop, .int .i64 x272.c.end_, v278, .int .i64 x272.now, .int .i64 x272.at_, .int .i64 x272.cal] 56 :: obPX (ob_portref2_ticking) 54 v47 s251 (Int.toNat (k245 : Int)) b276 :: obC b29 [v47] 52 :: L) := Hp.front hH (i := 1) rfl
             replace hH : Hp B A368 w365 (obC b276 [.int .i64 x272.c.kind, .int .i64 x272.c.level, .int .i64 x272.c.minutes, .int .i64 x272.c.start, .int .i64 x272.c.stop, .int .i64 x272.c.end_, v278, .int .i64 x272.now, .int .i64 x272.at_, .int .i64 x272.cal] 56 :: obS (α := level_Piece) 67 v278 x272.c.pieces :: obPX (ob_portref2_ticking) 54 v47 s251 (Int.toNat (k245 : Int)) b276 :: obC b29 [v47] 52 :: L) := Hp.front hH (i := 1) rfl
             obtain ⟨x374, hx374, ho264⟩ := Option.bind_eq_some_iff.1 ho264
             refine V_call Tryz.call16 rfl rfl rfl rfl (portref2_ticking_end_c (Dw := False) w365 hB hA x272 b276 v278 x70.at_ 2 hH hx374) ?_
             rintro _ w377 ⟨v375, A378, rfl, hH379, ht380⟩
             replace hr266 := Tr.trans (Dw := False) hr266 ht380
             replace hH : Hp B A378 w377 (obC b276 [.int .i64 x374.c.kind, .int .i64 x374.c.level, .int .i64 x374.c.minutes, .int .i64 x374.c.start, .int .i64 x374.c.stop, .int .i64 x374.c.end_, v375, .int .i64 x374.now, .int .i64 x374.at_, .int .i64 x374.cal] 56 :: obS (α := level_Piece) 67 v375 x374.c.pieces :: obPX (ob_portref2_ticking) 54 v47 s251 (Int.toNat (k245 : Int)) b276 :: obC b29 [v47] 52 :: L) := hH379
             refine V_to (fun _ _ => rfl) ?_
             obtain rfl := Option.some.inj ho264
             refine C_exit (fun a ha381 => ?_)
             replace hH : Hp B A378 w377 (obS (α := level_Piece) 67 v375 x374.c.pieces :: obC b276 [.int .i64 x374.c.kind, .int .i64 x374.c.level, .int .i64 x374.c.minutes, .int .i64 x374.c.start, .int .i64 x374.c.stop, .int .i64 x374.c.end_, v375, .int .i64 x374.now, .int .i64 x374.at_, .int .i64 x374.cal] 56 :: obPX (ob_portref2_ticking) 54 v47 s251 (Int.toNat (k245 : Int)) b276 :: obC b29 [v47] 52 :: L) := Hp.front hH (i := 1) rfl
             replace hH : Hp B A378 w377 (obC b276 [.int .i64 x374.c.kind, .int .i64 x374.c.level, .int .i64 x374.c.minutes, .int .i64 x374.c.start, .int .i64 x374.c.stop, .int .i64 x374.c.end_, v375, .int .i64 x374.now, .int .i64 x374.at_, .int .i64 x374.cal] 56 :: obS (α := level_Piece) 67 v375 x374.c.pieces :: obPX (ob_portref2_ticking) 54 v47 s251 (Int.toNat (k245 : Int)) b276 :: obC b29 [v47] 52 :: L) := Hp.front hH (i := 1) rfl
             replace hH : Hp B A378 w377 (ob_portref2_ticking b276 x374 :: obPX (ob_portref2_ticking) 54 v47 s251 (Int.toNat (k245 : Int)) b276 :: obC b29 [v47] 52 :: L) := Hp.pack (F := obF_portref2_ticking b276 x374) v375 hH
             replace hH : Hp B A378 w377 (obPS (ob_portref2_ticking) 54 v47 (List.set s251 (Int.toNat (k245 : Int)) x374) :: obC b29 [v47] 52 :: L) := Hp.psClose hH (i := 0) rfl hk277
             exact ⟨A378, ha381.sub ⟨rfl, rfl, rfl, rfl, rfl, rfl, rfl, rfl, rfl, rfl, rfl, rfl, rfl, trivial⟩, ⟨hH, hr266⟩⟩
            ·rw [if_neg (nt hc372)] at ho264
             refine C_skip_to (fun _ _ => rfl) ?_
             refine C_seq ?_
             refine C_region_ch (Dw := False) A368 19 [(1, 0), (1, 1), (1, 2), (1, 3), (1, 4), (1, 5), (1, 6), (1, 7), (1, 8), (1, 9), (1, 10), (3, 11), (1, 12), (1, 13), (1, 14), (3, 15), (1, 16), (1, 17), (3, 18)] Tryz_mixed (by kernel_rfl) (fun w382 hk383 => ?_)
             have ht384 := Kp.tr (Dw := False) hk383 hA hB
             replace hH := Hp.kp (Dw := False) hH hk383
             replace h85 := El.tr (Dw := False) h85 ht384
             replace h370 := El.tr (Dw := False) h370 ht384
             replace hr266 := Tr.trans (Dw := False) hr266 ht384
             replace hB := Nat.le_trans hB ht384.ex.size
             replace hA := ht384.new
             refine CH_q2 (Dw := False) rfl ?_
             refine VQ_y (fun w' hw' => Y_move rfl) rfl rfl rfl ?_
             refine VQ_CH (Dw := False) ?_
             refine CH_q2 (Dw := False) rfl ?_
             refine VQ_y (fun w' hw' => Y_move rfl) rfl rfl rfl ?_
             refine VQ_CH (Dw := False) ?_
             refine CH_q2 (Dw := False) rfl ?_
             refine VQ_y (fun w' hw' => Y_move rfl) rfl rfl rfl ?_
             refine VQ_CH (Dw := False) ?_
             refine CH_q2 (Dw := False) rfl ?_
             refine VQ_y (fun w' hw' => Y_move rfl) rfl rfl rfl ?_
             refine VQ_CH (Dw := False) ?_
             refine CH_q2 (Dw := False) rfl ?_
             have h385 := El_level_Target_1 h370
             refine VQ_y (fun w' hw' => Y_fieldAddr Tryz.underlying49 rfl Tryz.sizeOf3 (by decide) rfl) rfl rfl rfl ?_
             refine VQ_CH (Dw := False) ?_
             refine CH_q2 (Dw := False) rfl ?_
             refine VQ_y (fun w' hw' => Y_load (El.int (El.keep h385 (XA.ex hw'))) Tryz.isAgg3 rfl) rfl rfl rfl ?_
             refine VQ_CH (Dw := False) ?_
             refine CH_q2 (Dw := False) rfl ?_
             have h386 := El_level_Target_2 h370
             refine VQ_y (fun w' hw' => Y_fieldAddr Tryz.underlying49 rfl Tryz.sizeOf3 (by decide) rfl) rfl rfl rfl ?_
             refine VQ_CH (Dw := False) ?_
             refine CH_q2 (Dw := False) rfl ?_
             refine VQ_y (fun w' hw' => Y_load (El.int (El.keep h386 (XA.ex hw'))) Tryz.isAgg3 rfl) rfl rfl rfl ?_
             refine VQ_CH (Dw := False) ?_
             refine CH_q2 (Dw := False) rfl ?_
             refine VQ_y (fun w' hw' => Y_nilCheck rfl) rfl rfl rfl ?_
             refine VQ_CH (Dw := False) ?_
             refine CH_q2 (Dw := False) rfl ?_
             refine VQ_y (fun w' hw' => Y_fieldAddrC (off2 := 0) Tryz.underlying56 rfl Tryz.sizeOf47 (by decide) rfl rfl) rfl rfl rfl ?_
             refine VQ_CH (Dw := False) ?_
             refine CH_q2 (Dw := False) rfl ?_
             refine VQ_y (fun w' hw' => Y_fieldAddrC (off2 := 1) Tryz.underlying47 rfl Tryz.sizeOf3 (by decide) rfl rfl) rfl rfl rfl ?_
             refine VQ_CH (Dw := False) ?_
             refine CH_l1 (Dw := False) (k := 1) rfl ?_
             refine V_storeC (Dw := False) (off := 1) (ds := [.int .i64 x272.c.kind, .int .i64 x229, .int .i64 x272.c.minutes, .int .i64 x272.c.start, .int .i64 x272.c.stop, .int .i64 x272.c.end_, v278, .int .i64 x272.now, .int .i64 x272.at_, .int .i64 x272.cal]) hH (i := 0) rfl Tryz.sizeOf3 rfl (Nat.le_of_ble_eq_true rfl) (by simp [Value.cells, Value.oneCell']) rfl hB hA rfl rfl ?_
             intro w387 hH388 ht389
             replace h85 := El.tr (Dw := False) h85 ht389
             replace h370 := El.tr (Dw := False) h370 ht389
             replace hr266 := Tr.trans (Dw := False) hr266 ht389
             replace hB := Nat.le_trans hB ht389.ex.size
             replace hA := ht389.new
             replace hH : Hp B A368 w387 (obC b276 [.int .i64 x272.c.kind, .int .i64 x229, .int .i64 x272.c.minutes, .int .i64 x272.c.start, .int .i64 x272.c.stop, .int .i64 x272.c.end_, v278, .int .i64 x272.now, .int .i64 x272.at_, .int .i64 x272.cal] 56 :: obS (α := level_Piece) 67 v278 x272.c.pieces :: obPX (ob_portref2_ticking) 54 v47 s251 (Int.toNat (k245 : Int)) b276 :: obC b29 [v47] 52 :: L) := hH388
             refine V_CHx (Dw := False) (XA.tr (Dw := False) ht389) ?_
             refine CH_q2 (Dw := False) rfl ?_
             refine VQ_y (fun w' hw' => Y_nilCheck rfl) rfl rfl rfl ?_
             refine VQ_CH (Dw := False) ?_
             refine CH_q2 (Dw := False) rfl ?_
             refine VQ_y (fun w' hw' => Y_fieldAddrC (off2 := 0) Tryz.underlying56 rfl Tryz.sizeOf47 (by decide) rfl rfl) rfl rfl rfl ?_
             refine VQ_CH (Dw := False) ?_
             refine CH_q2 (Dw := False) rfl ?_
             refine VQ_y (fun w' hw' => Y_fieldAddrC (off2 := 2) Tryz.underlying47 rfl Tryz.sizeOf3 (by decide) rfl rfl) rfl rfl rfl ?_
             refine VQ_CH (Dw := False) ?_
             refine CH_l1 (Dw := False) (k := 1) rfl ?_
             refine V_storeC (Dw := False) (off := 2) (ds := [.int .i64 x272.c.kind, .int .i64 x229, .int .i64 x355.1.minutes, .int .i64 x272.c.start, .int .i64 x272.c.stop, .int .i64 x272.c.end_, v278, .int .i64 x272.now, .int .i64 x272.at_, .int .i64 x272.cal]) hH (i := 0) rfl Tryz.sizeOf3 rfl (Nat.le_of_ble_eq_true rfl) (by simp [Value.cells, Value.oneCell']) rfl hB hA rfl rfl ?_
             intro w390 hH391 ht392
             replace h85 := El.tr (Dw := False) h85 ht392
             replace h370 := El.tr (Dw := False) h370 ht392
             replace hr266 := Tr.trans (Dw := False) hr266 ht392
             replace hB := Nat.le_trans hB ht392.ex.size
             replace hA := ht392.new
             replace hH : Hp B A368 w390 (obC b276 [.int .i64 x272.c.kind, .int .i64 x229, .int .i64 x355.1.minutes, .int .i64 x272.c.start, .int .i64 x272.c.stop, .int .i64 x272.c.end_, v278, .int .i64 x272.now, .int .i64 x272.at_, .int .i64 x272.cal] 56 :: obS (α := level_Piece) 67 v278 x272.c.pieces :: obPX (ob_portref2_ticking) 54 v47 s251 (Int.toNat (k245 : Int)) b276 :: obC b29 [v47] 52 :: L) := hH391
             refine V_CHx (Dw := False) (XA.tr (Dw := False) ht392) ?_
             refine CH_q2 (Dw := False) rfl ?_
             refine VQ_y (fun w' hw' => Y_nilCheck rfl) rfl rfl rfl ?_
             refine VQ_CH (Dw := False) ?_
             refine CH_q2 (Dw := False) rfl ?_
             refine VQ_y (fun w' hw' => Y_fieldAddrC (off2 := 9) Tryz.underlying56 rfl Tryz.sizeOf3 (by decide) rfl rfl) rfl rfl rfl ?_
             refine VQ_CH (Dw := False) ?_
             refine CH_l1 (Dw := False) (k := 1) rfl ?_
             refine V_storeC (Dw := False) (off := 9) (ds := [.int .i64 x272.c.kind, .int .i64 x229, .int .i64 x355.1.minutes, .int .i64 x272.c.start, .int .i64 x272.c.stop, .int .i64 x272.c.end_, v278, .int .i64 x272.now, .int .i64 x272.at_, .int .i64 x355.1.calendar]) hH (i := 0) rfl Tryz.sizeOf3 rfl (Nat.le_of_ble_eq_true rfl) (by simp [Value.cells, Value.oneCell']) rfl hB hA rfl rfl ?_
             intro w393 hH394 ht395
             replace h85 := El.tr (Dw := False) h85 ht395
             replace h370 := El.tr (Dw := False) h370 ht395
             replace hr266 := Tr.trans (Dw := False) hr266 ht395
             replace hB := Nat.le_trans hB ht395.ex.size
             replace hA := ht395.new
             replace hH : Hp B A368 w393 (obC b276 [.int .i64 x272.c.kind, .int .i64 x229, .int .i64 x355.1.minutes, .int .i64 x272.c.start, .int .i64 x272.c.stop, .int .i64 x272.c.end_, v278, .int .i64 x272.now, .int .i64 x272.at_, .int .i64 x355.1.calendar] 56 :: obS (α := level_Piece) 67 v278 x272.c.pieces :: obPX (ob_portref2_ticking) 54 v47 s251 (Int.toNat (k245 : Int)) b276 :: obC b29 [v47] 52 :: L) := hH394
             refine V_CHx (Dw := False) (XA.tr (Dw := False) ht395) ?_
             refine CH_tail (Dw := False) ?_
             show V _ _ _ _ [] _ _
             refine V_to (fun _ _ => rfl) ?_
             refine C_seq ?_
             refine C_region ?_
             refine V_y (Y_move rfl) rfl rfl rfl ?_
             refine V_y (Y_nilCheck rfl) rfl rfl rfl ?_
             refine V_y (Y_fieldAddrC (off2 := 7) Tryz.underlying56 rfl Tryz.sizeOf3 (by decide) rfl rfl) rfl rfl rfl ?_
             refine V_y (Y_load (Hp.cell (j := 7) hH (i := 0) rfl rfl) Tryz.isAgg3 rfl) rfl rfl rfl ?_
             refine V_y (Y_geq rfl rfl) rfl rfl rfl ?_
             refine V_to (fun _ _ => rfl) ?_
             obtain ⟨s397, ho396, ho264⟩ := Option.bind_eq_some_iff.1 ho264
             refine C_cutG (ι := (Value × (Nat → Prop))) (fun ⟨v399, A404⟩ => [(1, v_l), (2, .pointer (some ⟨b7, 0, none⟩)), (8, .pointer (some ⟨b29, 0, none⟩)), (9, .int .i64 x229), (10, .func (.func 12) #[] #[.pointer (some ⟨b29, 0, none⟩)]), (11, .int .i64 (k37 : Int)), (12, .pointer (some ⟨b77, 0, none⟩)), (43, v_l), (44, .int .i64 (l.length : Int)), (45, .int .i64 (k37 : Int)), (120, v47), (121, .int .i64 (s89.length : Int)), (122, .int .i64 (k245 : Int))]) (fun ⟨v399, A404⟩ => fun w' => Hp B A404 w' (obC b276 [.int .i64 s397.c.kind, .int .i64 s397.c.level, .int .i64 s397.c.minutes, .int .i64 s397.c.start, .int .i64 s397.c.stop, .int .i64 s397.c.end_, v399, .int .i64 s397.now, .int .i64 s397.at_, .int .i64 s397.cal] 56 :: obS (α := level_Piece) 67 v399 s397.c.pieces :: obPX (ob_portref2_ticking) 54 v47 s251 (Int.toNat (k245 : Int)) b276 :: obC b29 [v47] 52 :: L) ∧ Tr False B A368 w393 A404 w') ?_ ?_
             ·have hr398 : Tr False B A368 w393 A368 w393 := Tr.refl (Dw := False) hA
              refine C_cond rfl (fun hc406 => ?_) (fun hc406 => ?_)
              ·rw [if_pos hc406] at ho396
               refine C_region ?_
               refine V_y (Y_move rfl) rfl rfl rfl ?_
               have h407 := El_level_Point_0 h85
               refine V_y (Y_fieldAddr Tryz.underlying41 rfl Tryz.sizeOf3 (by decide) rfl) rfl rfl rfl ?_
               refine V_y (Y_load (El.int h407) Tryz.isAgg3 rfl) rfl rfl rfl ?_
               have h408 := El_level_Target_2 h370
               refine V_y (Y_fieldAddr Tryz.underlying49 rfl Tryz.sizeOf3 (by decide) rfl) rfl rfl rfl ?_
               refine V_y (Y_load (El.int h408) Tryz.isAgg3 rfl) rfl rfl rfl ?_
               replace hH : Hp B A368 w393 (obS (α := level_Piece) 67 v278 x272.c.pieces :: obC b276 [.int .i64 x272.c.kind, .int .i64 x229, .int .i64 x355.1.minutes, .int .i64 x272.c.start, .int .i64 x272.c.stop, .int .i64 x272.c.end_, v278, .int .i64 x272.now, .int .i64 x272.at_, .int .i64 x355.1.calendar] 56 :: obPX (ob_portref2_ticking) 54 v47 s251 (Int.toNat (k245 : Int)) b276 :: obC b29 [v47] 52 :: L) := Hp.front hH (i := 1) rfl
               replace hH : Hp B A368 w393 (obC b276 [.int .i64 x272.c.kind, .int .i64 x229, .int .i64 x355.1.minutes, .int .i64 x272.c.start, .int .i64 x272.c.stop, .int .i64 x272.c.end_, v278, .int .i64 x272.now, .int .i64 x272.at_, .int .i64 x355.1.calendar] 56 :: obS (α := level_Piece) 67 v278 x272.c.pieces :: obPX (ob_portref2_ticking) 54 v47 s251 (Int.toNat (k245 : Int)) b276 :: obC b29 [v47] 52 :: L) := Hp.front hH (i := 1) rfl
               obtain ⟨x409, hx409, ho396⟩ := Option.bind_eq_some_iff.1 ho396
               refine V_call Tryz.call20 rfl rfl rfl rfl (portref2_ticking_turn_c (Dw := False) w393 hB hA (⟨(⟨x272.c.kind, x229, x355.1.minutes, x272.c.start, x272.c.stop, x272.c.end_, x272.c.pieces⟩ : level_Clock), x272.now, x272.at_, x355.1.calendar⟩ : portref2_ticking) b276 v278 x70.at_ x355.1.calendar hH hx409) ?_
               rintro _ w412 ⟨v410, A413, rfl, hH414, ht415⟩
               replace hr398 := Tr.trans (Dw := False) hr398 ht415
               replace hH : Hp B A413 w412 (obC b276 [.int .i64 x409.c.kind, .int .i64 x409.c.level, .int .i64 x409.c.minutes, .int .i64 x409.c.start, .int .i64 x409.c.stop, .int .i64 x409.c.end_, v410, .int .i64 x409.now, .int .i64 x409.at_, .int .i64 x409.cal] 56 :: obS (α := level_Piece) 67 v410 x409.c.pieces :: obPX (ob_portref2_ticking) 54 v47 s251 (Int.toNat (k245 : Int)) b276 :: obC b29 [v47] 52 :: L) := hH414
               obtain rfl := Option.some.inj ho396
               refine V_end (fun a ha416 => ?_)
               exact ⟨(v410, A413), ha416.sub ⟨rfl, rfl, rfl, rfl, rfl, rfl, rfl, rfl, rfl, rfl, rfl, rfl, rfl, trivial⟩, ⟨hH, hr398⟩⟩
              ·rw [if_neg (nt hc406)] at ho396
               obtain rfl := Option.some.inj ho396
               refine C_skip (fun a ha417 => ?_)
               exact ⟨(v278, A368), ha417.sub ⟨rfl, rfl, rfl, rfl, rfl, rfl, rfl, rfl, rfl, rfl, rfl, rfl, rfl, trivial⟩, ⟨hH, hr398⟩⟩
             rintro ⟨v399, A404⟩ w401 ⟨hH405, hk402⟩ a ha403
             replace hr266 := Tr.trans (Dw := False) hr266 hk402
             replace hA := hk402.new
             replace hH : Hp B A404 w401 (obC b276 [.int .i64 s397.c.kind, .int .i64 s397.c.level, .int .i64 s397.c.minutes, .int .i64 s397.c.start, .int .i64 s397.c.stop, .int .i64 s397.c.end_, v399, .int .i64 s397.now, .int .i64 s397.at_, .int .i64 s397.cal] 56 :: obS (α := level_Piece) 67 v399 s397.c.pieces :: obPX (ob_portref2_ticking) 54 v47 s251 (Int.toNat (k245 : Int)) b276 :: obC b29 [v47] 52 :: L) := hH405
             obtain rfl := Option.some.inj ho264
             replace hH : Hp B A404 w401 (obS (α := level_Piece) 67 v399 s397.c.pieces :: obC b276 [.int .i64 s397.c.kind, .int .i64 s397.c.level, .int .i64 s397.c.minutes, .int .i64 s397.c.start, .int .i64 s397.c.stop, .int .i64 s397.c.end_, v399, .int .i64 s397.now, .int .i64 s397.at_, .int .i64 s397.cal] 56 :: obPX (ob_portref2_ticking) 54 v47 s251 (Int.toNat (k245 : Int)) b276 :: obC b29 [v47] 52 :: L) := Hp.front hH (i := 1) rfl
             replace hH : Hp B A404 w401 (obC b276 [.int .i64 s397.c.kind, .int .i64 s397.c.level, .int .i64 s397.c.minutes, .int .i64 s397.c.start, .int .i64 s397.c.stop, .int .i64 s397.c.end_, v399, .int .i64 s397.now, .int .i64 s397.at_, .int .i64 s397.cal] 56 :: obS (α := level_Piece) 67 v399 s397.c.pieces :: obPX (ob_portref2_ticking) 54 v47 s251 (Int.toNat (k245 : Int)) b276 :: obC b29 [v47] 52 :: L) := Hp.front hH (i := 1) rfl
             replace hH : Hp B A404 w401 (ob_portref2_ticking b276 s397 :: obPX (ob_portref2_ticking) 54 v47 s251 (Int.toNat (k245 : Int)) b276 :: obC b29 [v47] 52 :: L) := Hp.pack (F := obF_portref2_ticking b276 s397) v399 hH
             replace hH : Hp B A404 w401 (obPS (ob_portref2_ticking) 54 v47 (List.set s251 (Int.toNat (k245 : Int)) s397) :: obC b29 [v47] 52 :: L) := Hp.psClose hH (i := 0) rfl hk277
             exact ⟨A404, ha403.sub ⟨rfl, rfl, rfl, rfl, rfl, rfl, rfl, rfl, rfl, rfl, rfl, rfl, rfl, trivial⟩, ⟨hH, hr266⟩⟩
          rintro A270 w267 ⟨hH271, hk268⟩ a ha269
          replace hr244 := Tr.trans (Dw := False) hr244 hk268
          replace hA := hk268.new
          replace hH : Hp B A270 w267 (obPS (ob_portref2_ticking) 54 v47 s265 :: obC b29 [v47] 52 :: L) := hH271
          refine C_at (n := ⟨351, [], none⟩) (fun _ _ => rfl) ?_ ha269
          refine C_region ?_
          refine V_y (Y_addI rfl rfl) rfl rfl rfl ?_
          refine V_y (Y_move rfl) rfl rfl rfl ?_
          obtain rfl := Option.some.inj h256
          refine V_end (fun a ha419 => ?_)
          exact ⟨s265, hlt259, h257, ⟨A270, ha419.sub ⟨rfl, rfl, rfl, rfl, rfl, rfl, rfl, rfl, rfl, rfl, rfl, rfl, (congrArg (fun z => some (Value.int .i64 z)) (w64_succ hlt259 hn262)), trivial⟩, ⟨hH, hr244⟩⟩⟩
         ·refine C_exit (fun a ha420 => ?_)
          exact ⟨(s251, A253), ha420.sub ⟨rfl, rfl, rfl, rfl, rfl, rfl, rfl, rfl, rfl, rfl, trivial⟩, ⟨(h260 (eq_of_dec hle258 hc263)).symm, hH, hr244⟩⟩
        rintro ⟨s243, A249⟩ w246 ⟨rfl, hH250, hk247⟩ a ha248
        rw [Lp.andThen_fin] at ho233
        replace hr235 := Tr.trans (Dw := False) hr235 hk247
        replace hA := hk247.new
        replace hH : Hp B A249 w246 (obPS (ob_portref2_ticking) 54 v47 s243 :: obC b29 [v47] 52 :: L) := hH250
        obtain rfl := Option.some.inj ho233
        exact ⟨A249, ha248.sub ⟨rfl, rfl, rfl, rfl, rfl, rfl, rfl, rfl, rfl, rfl, trivial⟩, ⟨hH, hr235⟩⟩
       ·rw [if_neg (nt hc241)] at ho233
        obtain rfl := Option.some.inj ho233
        refine C_skip (fun a ha423 => ?_)
        exact ⟨A95, ha423.sub ⟨rfl, rfl, rfl, rfl, rfl, rfl, rfl, rfl, rfl, rfl, trivial⟩, ⟨hH, hr235⟩⟩
      rintro A239 w236 ⟨hH240, hk237⟩ a ha238
      replace h_l := Sl.tr (Dw := False) h_l hk237
      replace h11 := El.tr (Dw := False) h11 hk237
      replace h85 := El.tr (Dw := False) h85 hk237
      replace hr62 := Tr.trans (Dw := False) hr62 hk237
      replace hB := Nat.le_trans hB hk237.ex.size
      replace hA := hk237.new
      replace hH : Hp B A239 w236 (obPS (ob_portref2_ticking) 54 v47 s234.2 :: obC b29 [v47] 52 :: L) := hH240
      refine C_at (n := ⟨351, [], none⟩) (fun _ _ => rfl) ?_ ha238
      refine C_seq ?_
      obtain ⟨s425, ho424, ho60⟩ := Option.bind_eq_some_iff.1 ho60
      refine C_cutG (ι := (Nat × (Nat → Prop))) (fun ⟨pb427, A431⟩ => [(1, v_l), (2, .pointer (some ⟨b7, 0, none⟩)), (8, .pointer (some ⟨b29, 0, none⟩)), (9, .int .i64 s234.1), (10, .func (.func 12) #[] #[.pointer (some ⟨b29, 0, none⟩)]), (11, .int .i64 (k37 : Int)), (12, .pointer (some ⟨b77, 0, none⟩)), (21, .map (some pb427)), (43, v_l), (44, .int .i64 (l.length : Int)), (45, .int .i64 (k37 : Int))]) (fun ⟨pb427, A431⟩ => fun w' => Hp B A431 w' (obSM (κ := Int) (α := Bool) pb427 s425 :: obPS (ob_portref2_ticking) 54 v47 s234.2 :: obC b29 [v47] 52 :: L) ∧ Tr False B A239 w236 A431 w') ?_ ?_
      ·have hr426 : Tr False B A239 w236 A239 w236 := Tr.refl (Dw := False) hA
       refine C_region ?_
       refine V_makeMapS (Dw := False) (B := B) Int Bool hH hB hA rfl ?_
       intro b433 w434 A435 hH436 ht437
       replace h_l := Sl.tr (Dw := False) h_l ht437
       replace h85 := El.tr (Dw := False) h85 ht437
       replace hr426 := Tr.trans (Dw := False) hr426 ht437
       replace hB := Nat.le_trans hB ht437.ex.size
       replace hA := ht437.new
       replace hH : Hp B A435 w434 (obSM (κ := Int) (α := Bool) b433 ([] : List (Int × Bool)) :: obPS (ob_portref2_ticking) 54 v47 s234.2 :: obC b29 [v47] 52 :: L) := hH436
       refine V_y (Y_move rfl) rfl rfl rfl ?_
       refine V_y (Y_eql rfl rfl) rfl rfl rfl ?_
       refine V_mapUpdateSI (Dw := False) (κ := Int) (α := Bool) (l := ([] : List (Int × Bool))) (c := (k37 : Int) == 0) hH (i := 0) rfl Tryz.underlying65 Tryz.underlying3 rfl rfl rfl hB hA ?_
       intro w438 hH439 ht440
       replace h_l := Sl.tr (Dw := False) h_l ht440
       replace h85 := El.tr (Dw := False) h85 ht440
       replace hr426 := Tr.trans (Dw := False) hr426 ht440
       replace hB := Nat.le_trans hB ht440.ex.size
       replace hA := ht440.new
       replace hH : Hp B A435 w438 (obSM (κ := Int) (α := Bool) b433 (mapPut ([] : List (Int × Bool)) 1 ((k37 : Int) == 0)) :: obPS (ob_portref2_ticking) 54 v47 s234.2 :: obC b29 [v47] 52 :: L) := hH439
       have h441 := El_level_Point_1 h85
       refine V_y (Y_fieldAddr Tryz.underlying41 rfl Tryz.sizeOf3 (by decide) rfl) rfl rfl rfl ?_
       refine V_y (Y_load (El.int h441) Tryz.isAgg3 rfl) rfl rfl rfl ?_
       refine V_y (Y_eql rfl rfl) rfl rfl rfl ?_
       refine V_y (Y_move rfl) rfl rfl rfl ?_
       rcases Bool.eq_false_or_eq_true (x70.kind == 2) with hc442 | hc442
       ·rw [if_pos hc442] at ho424
        refine V_ge rfl rfl rfl hc442 ?_
        have h443 := El_level_Point_2 h85
        refine V_y (Y_fieldAddr Tryz.underlying41 rfl Tryz.sizeOf3 (by decide) rfl) rfl rfl rfl ?_
        refine V_ge rfl rfl rfl hc442 ?_
        refine V_y (Y_load (El.int h443) Tryz.isAgg3 rfl) rfl rfl rfl ?_
        refine V_ge rfl rfl rfl hc442 ?_
        refine V_y (Y_eql rfl rfl) rfl rfl rfl ?_
        refine V_y (Y_pick_te rfl hc442 rfl) rfl rfl rfl ?_
        refine V_y (Y_move rfl) rfl rfl rfl ?_
        rcases Bool.eq_false_or_eq_true (x70.who == 0) with hc444 | hc444
        ·rw [if_pos hc444] at ho424
         refine V_ge rfl rfl rfl hc444 ?_
         refine V_y (Y_move rfl) rfl rfl rfl ?_
         refine V_ge rfl rfl rfl hc444 ?_
         refine V_buildSlice (Dw := False) (l := ([1, 2] : List Int)) (len := 2) Tryz.underlying22 Tryz.sizeOf3 Tryz.zeroValue3 rfl (by with_unfolding_all rfl) (show (2 * 1 : Nat) ≠ 0 by decide) (show (2 * 1 : Nat) ≤ 2 ^ 24 by decide) hA ⟨[.int .i64 1], _, rfl, rfl, ⟨[.int .i64 2], _, rfl, rfl, rfl⟩⟩ rfl rfl ?_
         intro v445 w446 hk448 h447
         have ht449 := Kp.tr (Dw := False) hk448 hA hB
         replace hH := Hp.kp (Dw := False) hH hk448
         replace h_l := Sl.tr (Dw := False) h_l ht449
         replace h85 := El.tr (Dw := False) h85 ht449
         replace hr426 := Tr.trans (Dw := False) hr426 ht449
         replace hB := Nat.le_trans hB ht449.ex.size
         replace hA := ht449.new
         refine V_ge rfl rfl rfl hc444 ?_
         replace hH : Hp B A435 w446 (obPS (ob_portref2_ticking) 54 v47 s234.2 :: obSM (κ := Int) (α := Bool) b433 (mapPut ([] : List (Int × Bool)) 1 ((k37 : Int) == 0)) :: obC b29 [v47] 52 :: L) := Hp.front hH (i := 1) rfl
         replace hH : Hp B A435 w446 (obC b29 [v47] 52 :: obPS (ob_portref2_ticking) 54 v47 s234.2 :: obSM (κ := Int) (α := Bool) b433 (mapPut ([] : List (Int × Bool)) 1 ((k37 : Int) == 0)) :: L) := Hp.front hH (i := 2) rfl
         obtain ⟨x450, hx450, ho424⟩ := Option.bind_eq_some_iff.1 ho424
         refine V_call Tryz.call12 rfl rfl rfl rfl (portref2_ClocksOf_1_c (Dw := False) w446 hB hA ([1, 2] : List Int) v445 h447 s234.2 b29 v47 hH hx450) ?_
         rintro _ w451 ⟨A452, rfl, hH453, ht454⟩
         replace h_l := Sl.tr (Dw := False) h_l ht454
         replace h85 := El.tr (Dw := False) h85 ht454
         replace hr426 := Tr.trans (Dw := False) hr426 ht454
         replace hB := Nat.le_trans hB ht454.ex.size
         replace hA := ht454.new
         replace hH : Hp B A452 w451 (obC b29 [v47] 52 :: obPS (ob_portref2_ticking) 54 v47 s234.2 :: obSM (κ := Int) (α := Bool) b433 (mapPut ([] : List (Int × Bool)) 1 ((k37 : Int) == 0)) :: L) := hH453
         refine V_ge rfl rfl rfl hc444 ?_
         refine V_y (Y_not rfl) rfl rfl rfl ?_
         refine V_y (Y_pick_te rfl hc444 rfl) rfl rfl rfl ?_
         refine V_mapUpdateSI (Dw := False) (κ := Int) (α := Bool) (l := (mapPut ([] : List (Int × Bool)) 1 ((k37 : Int) == 0))) (c := !x450) hH (i := 2) rfl Tryz.underlying65 Tryz.underlying3 rfl rfl rfl hB hA ?_
         intro w455 hH456 ht457
         replace h_l := Sl.tr (Dw := False) h_l ht457
         replace h85 := El.tr (Dw := False) h85 ht457
         replace hr426 := Tr.trans (Dw := False) hr426 ht457
         replace hB := Nat.le_trans hB ht457.ex.size
         replace hA := ht457.new
         replace hH : Hp B A452 w455 (obC b29 [v47] 52 :: obPS (ob_portref2_ticking) 54 v47 s234.2 :: obSM (κ := Int) (α := Bool) b433 (mapPut (mapPut ([] : List (Int × Bool)) 1 ((k37 : Int) == 0)) 2 (!x450)) :: L) := hH456
         refine V_y (Y_move rfl) rfl rfl rfl ?_
         refine V_y (Y_eql rfl rfl) rfl rfl rfl ?_
         refine V_y (Y_move rfl) rfl rfl rfl ?_
         rcases Bool.eq_false_or_eq_true ((k37 : Int) == 0) with hc458 | hc458
         ·rw [if_pos hc458] at ho424
          refine V_gn rfl rfl rfl hc458 rfl rfl rfl ?_
          refine V_gn rfl rfl rfl hc458 rfl rfl rfl ?_
          refine V_gn rfl rfl rfl hc458 rfl rfl rfl ?_
          refine V_gn rfl rfl rfl hc458 rfl rfl rfl ?_
          refine V_gn rfl rfl rfl hc458 rfl rfl rfl ?_
          refine V_gn rfl rfl rfl hc458 rfl rfl rfl ?_
          refine V_gn rfl rfl rfl hc458 rfl rfl rfl ?_
          refine V_y (Y_pick_te rfl hc458 rfl) rfl rfl rfl ?_
          refine V_y (Y_move rfl) rfl rfl rfl ?_
          have hc459 : (true : Bool) = true := rfl
          refine V_ge rfl rfl rfl hc459 ?_
          have h460 := El_level_Point_3 h85
          refine V_y (Y_fieldAddr Tryz.underlying41 rfl Tryz.sizeOf3 (by decide) rfl) rfl rfl rfl ?_
          refine V_ge rfl rfl rfl hc459 ?_
          refine V_y (Y_load (El.int h460) Tryz.isAgg3 rfl) rfl rfl rfl ?_
          refine V_ge rfl rfl rfl hc459 ?_
          refine V_y (Y_neq rfl rfl) rfl rfl rfl ?_
          refine V_y (Y_pick_te rfl hc459 rfl) rfl rfl rfl ?_
          refine V_y (Y_move rfl) rfl rfl rfl ?_
          rcases Bool.eq_false_or_eq_true (x70.status != 5) with hc461 | hc461
          ·rw [if_pos hc461] at ho424
           refine V_ge rfl rfl rfl hc461 ?_
           refine V_y (Y_move rfl) rfl rfl rfl ?_
           refine V_ge rfl rfl rfl hc461 ?_
           refine V_buildSlice (Dw := False) (l := ([3] : List Int)) (len := 1) Tryz.underlying22 Tryz.sizeOf3 Tryz.zeroValue3 rfl (by with_unfolding_all rfl) (show (1 * 1 : Nat) ≠ 0 by decide) (show (1 * 1 : Nat) ≤ 2 ^ 24 by decide) hA ⟨[.int .i64 3], _, rfl, rfl, rfl⟩ rfl rfl ?_
           intro v462 w463 hk465 h464
           have ht466 := Kp.tr (Dw := False) hk465 hA hB
           replace hH := Hp.kp (Dw := False) hH hk465
           replace hr426 := Tr.trans (Dw := False) hr426 ht466
           replace hB := Nat.le_trans hB ht466.ex.size
           replace hA := ht466.new
           refine V_ge rfl rfl rfl hc461 ?_
           replace hH : Hp B A452 w463 (obPS (ob_portref2_ticking) 54 v47 s234.2 :: obC b29 [v47] 52 :: obSM (κ := Int) (α := Bool) b433 (mapPut (mapPut ([] : List (Int × Bool)) 1 ((k37 : Int) == 0)) 2 (!x450)) :: L) := Hp.front hH (i := 1) rfl
           replace hH : Hp B A452 w463 (obC b29 [v47] 52 :: obPS (ob_portref2_ticking) 54 v47 s234.2 :: obSM (κ := Int) (α := Bool) b433 (mapPut (mapPut ([] : List (Int × Bool)) 1 ((k37 : Int) == 0)) 2 (!x450)) :: L) := Hp.front hH (i := 1) rfl
           obtain ⟨x467, hx467, ho424⟩ := Option.bind_eq_some_iff.1 ho424
           refine V_call Tryz.call12 rfl rfl rfl rfl (portref2_ClocksOf_1_c (Dw := False) w463 hB hA ([3] : List Int) v462 h464 s234.2 b29 v47 hH hx467) ?_
           rintro _ w468 ⟨A469, rfl, hH470, ht471⟩
           replace hr426 := Tr.trans (Dw := False) hr426 ht471
           replace hB := Nat.le_trans hB ht471.ex.size
           replace hA := ht471.new
           replace hH : Hp B A469 w468 (obC b29 [v47] 52 :: obPS (ob_portref2_ticking) 54 v47 s234.2 :: obSM (κ := Int) (α := Bool) b433 (mapPut (mapPut ([] : List (Int × Bool)) 1 ((k37 : Int) == 0)) 2 (!x450)) :: L) := hH470
           refine V_ge rfl rfl rfl hc461 ?_
           refine V_y (Y_not rfl) rfl rfl rfl ?_
           refine V_y (Y_pick_te rfl hc461 rfl) rfl rfl rfl ?_
           refine V_mapUpdateSI (Dw := False) (κ := Int) (α := Bool) (l := (mapPut (mapPut ([] : List (Int × Bool)) 1 ((k37 : Int) == 0)) 2 (!x450))) (c := !x467) hH (i := 2) rfl Tryz.underlying65 Tryz.underlying3 rfl rfl rfl hB hA ?_
           intro w472 hH473 ht474
           replace hr426 := Tr.trans (Dw := False) hr426 ht474
           replace hH : Hp B A469 w472 (obC b29 [v47] 52 :: obPS (ob_portref2_ticking) 54 v47 s234.2 :: obSM (κ := Int) (α := Bool) b433 (mapPut (mapPut (mapPut ([] : List (Int × Bool)) 1 ((k37 : Int) == 0)) 2 (!x450)) 3 (!x467)) :: L) := hH473
           refine V_y (Y_move rfl) rfl rfl rfl ?_
           refine V_y (Y_assign rfl) rfl rfl rfl ?_
           obtain rfl := Option.some.inj ho424
           refine V_end (fun a ha475 => ?_)
           replace hH : Hp B A469 w472 (obPS (ob_portref2_ticking) 54 v47 s234.2 :: obC b29 [v47] 52 :: obSM (κ := Int) (α := Bool) b433 (mapPut (mapPut (mapPut ([] : List (Int × Bool)) 1 ((k37 : Int) == 0)) 2 (!x450)) 3 (!x467)) :: L) := Hp.front hH (i := 1) rfl
           replace hH : Hp B A469 w472 (obSM (κ := Int) (α := Bool) b433 (mapPut (mapPut (mapPut ([] : List (Int × Bool)) 1 ((k37 : Int) == 0)) 2 (!x450)) 3 (!x467)) :: obPS (ob_portref2_ticking) 54 v47 s234.2 :: obC b29 [v47] 52 :: L) := Hp.front hH (i := 2) rfl
           exact ⟨(b433, A469), ha475.sub ⟨rfl, rfl, rfl, rfl, rfl, rfl, rfl, rfl, rfl, rfl, rfl, trivial⟩, ⟨hH, hr426⟩⟩
          ·rw [if_neg (nt hc461)] at ho424
           refine V_gn rfl rfl rfl hc461 rfl rfl rfl ?_
           refine V_gn rfl rfl rfl hc461 rfl rfl rfl ?_
           refine V_gn rfl rfl rfl hc461 rfl rfl rfl ?_
           refine V_gn rfl rfl rfl hc461 rfl rfl rfl ?_
           refine V_y (Y_pick_fe rfl hc461 rfl) rfl rfl rfl ?_
           refine V_mapUpdateSI (Dw := False) (κ := Int) (α := Bool) (l := (mapPut (mapPut ([] : List (Int × Bool)) 1 ((k37 : Int) == 0)) 2 (!x450))) (c := false) hH (i := 2) rfl Tryz.underlying65 Tryz.underlying3 rfl rfl rfl hB hA ?_
           intro w476 hH477 ht478
           replace hr426 := Tr.trans (Dw := False) hr426 ht478
           replace hH : Hp B A452 w476 (obC b29 [v47] 52 :: obPS (ob_portref2_ticking) 54 v47 s234.2 :: obSM (κ := Int) (α := Bool) b433 (mapPut (mapPut (mapPut ([] : List (Int × Bool)) 1 ((k37 : Int) == 0)) 2 (!x450)) 3 false) :: L) := hH477
           refine V_y (Y_move rfl) rfl rfl rfl ?_
           refine V_y (Y_assign rfl) rfl rfl rfl ?_
           obtain rfl := Option.some.inj ho424
           refine V_end (fun a ha479 => ?_)
           replace hH : Hp B A452 w476 (obPS (ob_portref2_ticking) 54 v47 s234.2 :: obC b29 [v47] 52 :: obSM (κ := Int) (α := Bool) b433 (mapPut (mapPut (mapPut ([] : List (Int × Bool)) 1 ((k37 : Int) == 0)) 2 (!x450)) 3 false) :: L) := Hp.front hH (i := 1) rfl
           replace hH : Hp B A452 w476 (obSM (κ := Int) (α := Bool) b433 (mapPut (mapPut (mapPut ([] : List (Int × Bool)) 1 ((k37 : Int) == 0)) 2 (!x450)) 3 false) :: obPS (ob_portref2_ticking) 54 v47 s234.2 :: obC b29 [v47] 52 :: L) := Hp.front hH (i := 2) rfl
           exact ⟨(b433, A452), ha479.sub ⟨rfl, rfl, rfl, rfl, rfl, rfl, rfl, rfl, rfl, rfl, rfl, trivial⟩, ⟨hH, hr426⟩⟩
         ·rw [if_neg (nt hc458)] at ho424
          refine V_ge rfl rfl rfl hc458 ?_
          refine V_y (Y_move rfl) rfl rfl rfl ?_
          refine V_ge rfl rfl rfl hc458 ?_
          refine V_y (Y_move rfl) rfl rfl rfl ?_
          refine V_ge rfl rfl rfl hc458 ?_
          refine V_y (Y_subI rfl rfl) rfl rfl rfl ?_
          refine V_ge rfl rfl rfl hc458 ?_
          obtain ⟨x480, hx480, ho424⟩ := Option.bind_eq_some_iff.1 ho424
          refine V_indexAddr h_l hx480 Tryz.underlying26 Tryz.sizeOf41 rfl rfl rfl ?_
          intro b481 o482 h483
          refine V_ge rfl rfl rfl hc458 ?_
          have h484 := El_level_Point_3 h483
          refine V_y (Y_fieldAddr Tryz.underlying41 rfl Tryz.sizeOf3 (by decide) rfl) rfl rfl rfl ?_
          refine V_ge rfl rfl rfl hc458 ?_
          refine V_y (Y_load (El.int h484) Tryz.isAgg3 rfl) rfl rfl rfl ?_
          refine V_ge rfl rfl rfl hc458 ?_
          refine V_call Tryz.call17 rfl rfl rfl rfl (portref2_over_c w455 x480.status) ?_
          rintro _ _ ⟨rfl, rfl⟩
          refine V_y (Y_pick_fe rfl hc458 rfl) rfl rfl rfl ?_
          refine V_y (Y_move rfl) rfl rfl rfl ?_
          rcases Bool.eq_false_or_eq_true ((portref2_over x480.status)) with hc485 | hc485
          ·rw [if_pos hc485] at ho424
           refine V_ge rfl rfl rfl hc485 ?_
           have h486 := El_level_Point_3 h85
           refine V_y (Y_fieldAddr Tryz.underlying41 rfl Tryz.sizeOf3 (by decide) rfl) rfl rfl rfl ?_
           refine V_ge rfl rfl rfl hc485 ?_
           refine V_y (Y_load (El.int h486) Tryz.isAgg3 rfl) rfl rfl rfl ?_
           refine V_ge rfl rfl rfl hc485 ?_
           refine V_y (Y_neq rfl rfl) rfl rfl rfl ?_
           refine V_y (Y_pick_te rfl hc485 rfl) rfl rfl rfl ?_
           refine V_y (Y_move rfl) rfl rfl rfl ?_
           rcases Bool.eq_false_or_eq_true (x70.status != 5) with hc487 | hc487
           ·rw [if_pos hc487] at ho424
            refine V_ge rfl rfl rfl hc487 ?_
            refine V_y (Y_move rfl) rfl rfl rfl ?_
            refine V_ge rfl rfl rfl hc487 ?_
            refine V_buildSlice (Dw := False) (l := ([3] : List Int)) (len := 1) Tryz.underlying22 Tryz.sizeOf3 Tryz.zeroValue3 rfl (by with_unfolding_all rfl) (show (1 * 1 : Nat) ≠ 0 by decide) (show (1 * 1 : Nat) ≤ 2 ^ 24 by decide) hA ⟨[.int .i64 3], _, rfl, rfl, rfl⟩ rfl rfl ?_
            intro v488 w489 hk491 h490
            have ht492 := Kp.tr (Dw := False) hk491 hA hB
            replace hH := Hp.kp (Dw := False) hH hk491
            replace hr426 := Tr.trans (Dw := False) hr426 ht492
            replace hB := Nat.le_trans hB ht492.ex.size
            replace hA := ht492.new
            refine V_ge rfl rfl rfl hc487 ?_
            replace hH : Hp B A452 w489 (obPS (ob_portref2_ticking) 54 v47 s234.2 :: obC b29 [v47] 52 :: obSM (κ := Int) (α := Bool) b433 (mapPut (mapPut ([] : List (Int × Bool)) 1 ((k37 : Int) == 0)) 2 (!x450)) :: L) := Hp.front hH (i := 1) rfl
            replace hH : Hp B A452 w489 (obC b29 [v47] 52 :: obPS (ob_portref2_ticking) 54 v47 s234.2 :: obSM (κ := Int) (α := Bool) b433 (mapPut (mapPut ([] : List (Int × Bool)) 1 ((k37 : Int) == 0)) 2 (!x450)) :: L) := Hp.front hH (i := 1) rfl
            obtain ⟨x493, hx493, ho424⟩ := Option.bind_eq_some_iff.1 ho424
            refine V_call Tryz.call12 rfl rfl rfl rfl (portref2_ClocksOf_1_c (Dw := False) w489 hB hA ([3] : List Int) v488 h490 s234.2 b29 v47 hH hx493) ?_
            rintro _ w494 ⟨A495, rfl, hH496, ht497⟩
            replace hr426 := Tr.trans (Dw := False) hr426 ht497
            replace hB := Nat.le_trans hB ht497.ex.size
            replace hA := ht497.new
            replace hH : Hp B A495 w494 (obC b29 [v47] 52 :: obPS (ob_portref2_ticking) 54 v47 s234.2 :: obSM (κ := Int) (α := Bool) b433 (mapPut (mapPut ([] : List (Int × Bool)) 1 ((k37 : Int) == 0)) 2 (!x450)) :: L) := hH496
            refine V_ge rfl rfl rfl hc487 ?_
            refine V_y (Y_not rfl) rfl rfl rfl ?_
            refine V_y (Y_pick_te rfl hc487 rfl) rfl rfl rfl ?_
            refine V_mapUpdateSI (Dw := False) (κ := Int) (α := Bool) (l := (mapPut (mapPut ([] : List (Int × Bool)) 1 ((k37 : Int) == 0)) 2 (!x450))) (c := !x493) hH (i := 2) rfl Tryz.underlying65 Tryz.underlying3 rfl rfl rfl hB hA ?_
            intro w498 hH499 ht500
            replace hr426 := Tr.trans (Dw := False) hr426 ht500
            replace hH : Hp B A495 w498 (obC b29 [v47] 52 :: obPS (ob_portref2_ticking) 54 v47 s234.2 :: obSM (κ := Int) (α := Bool) b433 (mapPut (mapPut (mapPut ([] : List (Int × Bool)) 1 ((k37 : Int) == 0)) 2 (!x450)) 3 (!x493)) :: L) := hH499
            refine V_y (Y_move rfl) rfl rfl rfl ?_
            refine V_y (Y_assign rfl) rfl rfl rfl ?_
            obtain rfl := Option.some.inj ho424
            refine V_end (fun a ha501 => ?_)
            replace hH : Hp B A495 w498 (obPS (ob_portref2_ticking) 54 v47 s234.2 :: obC b29 [v47] 52 :: obSM (κ := Int) (α := Bool) b433 (mapPut (mapPut (mapPut ([] : List (Int × Bool)) 1 ((k37 : Int) == 0)) 2 (!x450)) 3 (!x493)) :: L) := Hp.front hH (i := 1) rfl
            replace hH : Hp B A495 w498 (obSM (κ := Int) (α := Bool) b433 (mapPut (mapPut (mapPut ([] : List (Int × Bool)) 1 ((k37 : Int) == 0)) 2 (!x450)) 3 (!x493)) :: obPS (ob_portref2_ticking) 54 v47 s234.2 :: obC b29 [v47] 52 :: L) := Hp.front hH (i := 2) rfl
            exact ⟨(b433, A495), ha501.sub ⟨rfl, rfl, rfl, rfl, rfl, rfl, rfl, rfl, rfl, rfl, rfl, trivial⟩, ⟨hH, hr426⟩⟩
           ·rw [if_neg (nt hc487)] at ho424
            refine V_gn rfl rfl rfl hc487 rfl rfl rfl ?_
            refine V_gn rfl rfl rfl hc487 rfl rfl rfl ?_
            refine V_gn rfl rfl rfl hc487 rfl rfl rfl ?_
            refine V_gn rfl rfl rfl hc487 rfl rfl rfl ?_
            refine V_y (Y_pick_fe rfl hc487 rfl) rfl rfl rfl ?_
            refine V_mapUpdateSI (Dw := False) (κ := Int) (α := Bool) (l := (mapPut (mapPut ([] : List (Int × Bool)) 1 ((k37 : Int) == 0)) 2 (!x450))) (c := false) hH (i := 2) rfl Tryz.underlying65 Tryz.underlying3 rfl rfl rfl hB hA ?_
            intro w502 hH503 ht504
            replace hr426 := Tr.trans (Dw := False) hr426 ht504
            replace hH : Hp B A452 w502 (obC b29 [v47] 52 :: obPS (ob_portref2_ticking) 54 v47 s234.2 :: obSM (κ := Int) (α := Bool) b433 (mapPut (mapPut (mapPut ([] : List (Int × Bool)) 1 ((k37 : Int) == 0)) 2 (!x450)) 3 false) :: L) := hH503
            refine V_y (Y_move rfl) rfl rfl rfl ?_
            refine V_y (Y_assign rfl) rfl rfl rfl ?_
            obtain rfl := Option.some.inj ho424
            refine V_end (fun a ha505 => ?_)
            replace hH : Hp B A452 w502 (obPS (ob_portref2_ticking) 54 v47 s234.2 :: obC b29 [v47] 52 :: obSM (κ := Int) (α := Bool) b433 (mapPut (mapPut (mapPut ([] : List (Int × Bool)) 1 ((k37 : Int) == 0)) 2 (!x450)) 3 false) :: L) := Hp.front hH (i := 1) rfl
            replace hH : Hp B A452 w502 (obSM (κ := Int) (α := Bool) b433 (mapPut (mapPut (mapPut ([] : List (Int × Bool)) 1 ((k37 : Int) == 0)) 2 (!x450)) 3 false) :: obPS (ob_portref2_ticking) 54 v47 s234.2 :: obC b29 [v47] 52 :: L) := Hp.front hH (i := 2) rfl
            exact ⟨(b433, A452), ha505.sub ⟨rfl, rfl, rfl, rfl, rfl, rfl, rfl, rfl, rfl, rfl, rfl, trivial⟩, ⟨hH, hr426⟩⟩
          ·rw [if_neg (nt hc485)] at ho424
           refine V_gn rfl rfl rfl hc485 rfl rfl rfl ?_
           refine V_gn rfl rfl rfl hc485 rfl rfl rfl ?_
           refine V_gn rfl rfl rfl hc485 rfl rfl rfl ?_
           refine V_y (Y_pick_fe rfl hc485 rfl) rfl rfl rfl ?_
           refine V_y (Y_move rfl) rfl rfl rfl ?_
           have hc506 : (false : Bool) = false := rfl
           refine V_gn rfl rfl rfl hc506 rfl rfl rfl ?_
           refine V_gn rfl rfl rfl hc506 rfl rfl rfl ?_
           refine V_gn rfl rfl rfl hc506 rfl rfl rfl ?_
           refine V_gn rfl rfl rfl hc506 rfl rfl rfl ?_
           refine V_y (Y_pick_fe rfl hc506 rfl) rfl rfl rfl ?_
           refine V_mapUpdateSI (Dw := False) (κ := Int) (α := Bool) (l := (mapPut (mapPut ([] : List (Int × Bool)) 1 ((k37 : Int) == 0)) 2 (!x450))) (c := false) hH (i := 2) rfl Tryz.underlying65 Tryz.underlying3 rfl rfl rfl hB hA ?_
           intro w507 hH508 ht509
           replace hr426 := Tr.trans (Dw := False) hr426 ht509
           replace hH : Hp B A452 w507 (obC b29 [v47] 52 :: obPS (ob_portref2_ticking) 54 v47 s234.2 :: obSM (κ := Int) (α := Bool) b433 (mapPut (mapPut (mapPut ([] : List (Int × Bool)) 1 ((k37 : Int) == 0)) 2 (!x450)) 3 false) :: L) := hH508
           refine V_y (Y_move rfl) rfl rfl rfl ?_
           refine V_y (Y_assign rfl) rfl rfl rfl ?_
           obtain rfl := Option.some.inj ho424
           refine V_end (fun a ha510 => ?_)
           replace hH : Hp B A452 w507 (obPS (ob_portref2_ticking) 54 v47 s234.2 :: obC b29 [v47] 52 :: obSM (κ := Int) (α := Bool) b433 (mapPut (mapPut (mapPut ([] : List (Int × Bool)) 1 ((k37 : Int) == 0)) 2 (!x450)) 3 false) :: L) := Hp.front hH (i := 1) rfl
           replace hH : Hp B A452 w507 (obSM (κ := Int) (α := Bool) b433 (mapPut (mapPut (mapPut ([] : List (Int × Bool)) 1 ((k37 : Int) == 0)) 2 (!x450)) 3 false) :: obPS (ob_portref2_ticking) 54 v47 s234.2 :: obC b29 [v47] 52 :: L) := Hp.front hH (i := 2) rfl
           exact ⟨(b433, A452), ha510.sub ⟨rfl, rfl, rfl, rfl, rfl, rfl, rfl, rfl, rfl, rfl, rfl, trivial⟩, ⟨hH, hr426⟩⟩
        ·rw [if_neg (nt hc444)] at ho424
         refine V_gn rfl rfl rfl hc444 rfl rfl rfl ?_
         refine V_gn rfl rfl rfl hc444 rfl rfl rfl ?_
         refine V_gn rfl rfl rfl hc444 rfl rfl rfl ?_
         refine V_gn rfl rfl rfl hc444 rfl rfl rfl ?_
         refine V_y (Y_pick_fe rfl hc444 rfl) rfl rfl rfl ?_
         refine V_mapUpdateSI (Dw := False) (κ := Int) (α := Bool) (l := (mapPut ([] : List (Int × Bool)) 1 ((k37 : Int) == 0))) (c := false) hH (i := 0) rfl Tryz.underlying65 Tryz.underlying3 rfl rfl rfl hB hA ?_
         intro w511 hH512 ht513
         replace h_l := Sl.tr (Dw := False) h_l ht513
         replace h85 := El.tr (Dw := False) h85 ht513
         replace hr426 := Tr.trans (Dw := False) hr426 ht513
         replace hB := Nat.le_trans hB ht513.ex.size
         replace hA := ht513.new
         replace hH : Hp B A435 w511 (obSM (κ := Int) (α := Bool) b433 (mapPut (mapPut ([] : List (Int × Bool)) 1 ((k37 : Int) == 0)) 2 false) :: obPS (ob_portref2_ticking) 54 v47 s234.2 :: obC b29 [v47] 52 :: L) := hH512
         refine V_y (Y_move rfl) rfl rfl rfl ?_
         refine V_y (Y_eql rfl rfl) rfl rfl rfl ?_
         refine V_y (Y_move rfl) rfl rfl rfl ?_
         rcases Bool.eq_false_or_eq_true ((k37 : Int) == 0) with hc514 | hc514
         ·rw [if_pos hc514] at ho424
          refine V_gn rfl rfl rfl hc514 rfl rfl rfl ?_
          refine V_gn rfl rfl rfl hc514 rfl rfl rfl ?_
          refine V_gn rfl rfl rfl hc514 rfl rfl rfl ?_
          refine V_gn rfl rfl rfl hc514 rfl rfl rfl ?_
          refine V_gn rfl rfl rfl hc514 rfl rfl rfl ?_
          refine V_gn rfl rfl rfl hc514 rfl rfl rfl ?_
          refine V_gn rfl rfl rfl hc514 rfl rfl rfl ?_
          refine V_y (Y_pick_te rfl hc514 rfl) rfl rfl rfl ?_
          refine V_y (Y_move rfl) rfl rfl rfl ?_
          have hc515 : (true : Bool) = true := rfl
          refine V_ge rfl rfl rfl hc515 ?_
          have h516 := El_level_Point_3 h85
          refine V_y (Y_fieldAddr Tryz.underlying41 rfl Tryz.sizeOf3 (by decide) rfl) rfl rfl rfl ?_
          refine V_ge rfl rfl rfl hc515 ?_
          refine V_y (Y_load (El.int h516) Tryz.isAgg3 rfl) rfl rfl rfl ?_
          refine V_ge rfl rfl rfl hc515 ?_
          refine V_y (Y_neq rfl rfl) rfl rfl rfl ?_
          refine V_y (Y_pick_te rfl hc515 rfl) rfl rfl rfl ?_
          refine V_y (Y_move rfl) rfl rfl rfl ?_
          rcases Bool.eq_false_or_eq_true (x70.status != 5) with hc517 | hc517
          ·rw [if_pos hc517] at ho424
           refine V_ge rfl rfl rfl hc517 ?_
           refine V_y (Y_move rfl) rfl rfl rfl ?_
           refine V_ge rfl rfl rfl hc517 ?_
           refine V_buildSlice (Dw := False) (l := ([3] : List Int)) (len := 1) Tryz.underlying22 Tryz.sizeOf3 Tryz.zeroValue3 rfl (by with_unfolding_all rfl) (show (1 * 1 : Nat) ≠ 0 by decide) (show (1 * 1 : Nat) ≤ 2 ^ 24 by decide) hA ⟨[.int .i64 3], _, rfl, rfl, rfl⟩ rfl rfl ?_
           intro v518 w519 hk521 h520
           have ht522 := Kp.tr (Dw := False) hk521 hA hB
           replace hH := Hp.kp (Dw := False) hH hk521
           replace hr426 := Tr.trans (Dw := False) hr426 ht522
           replace hB := Nat.le_trans hB ht522.ex.size
           replace hA := ht522.new
           refine V_ge rfl rfl rfl hc517 ?_
           replace hH : Hp B A435 w519 (obPS (ob_portref2_ticking) 54 v47 s234.2 :: obSM (κ := Int) (α := Bool) b433 (mapPut (mapPut ([] : List (Int × Bool)) 1 ((k37 : Int) == 0)) 2 false) :: obC b29 [v47] 52 :: L) := Hp.front hH (i := 1) rfl
           replace hH : Hp B A435 w519 (obC b29 [v47] 52 :: obPS (ob_portref2_ticking) 54 v47 s234.2 :: obSM (κ := Int) (α := Bool) b433 (mapPut (mapPut ([] : List (Int × Bool)) 1 ((k37 : Int) == 0)) 2 false) :: L) := Hp.front hH (i := 2) rfl
           obtain ⟨x523, hx523, ho424⟩ := Option.bind_eq_some_iff.1 ho424
           refine V_call Tryz.call12 rfl rfl rfl rfl (portref2_ClocksOf_1_c (Dw := False) w519 hB hA ([3] : List Int) v518 h520 s234.2 b29 v47 hH hx523) ?_
           rintro _ w524 ⟨A525, rfl, hH526, ht527⟩
           replace hr426 := Tr.trans (Dw := False) hr426 ht527
           replace hB := Nat.le_trans hB ht527.ex.size
           replace hA := ht527.new
           replace hH : Hp B A525 w524 (obC b29 [v47] 52 :: obPS (ob_portref2_ticking) 54 v47 s234.2 :: obSM (κ := Int) (α := Bool) b433 (mapPut (mapPut ([] : List (Int × Bool)) 1 ((k37 : Int) == 0)) 2 false) :: L) := hH526
           refine V_ge rfl rfl rfl hc517 ?_
           refine V_y (Y_not rfl) rfl rfl rfl ?_
           refine V_y (Y_pick_te rfl hc517 rfl) rfl rfl rfl ?_
           refine V_mapUpdateSI (Dw := False) (κ := Int) (α := Bool) (l := (mapPut (mapPut ([] : List (Int × Bool)) 1 ((k37 : Int) == 0)) 2 false)) (c := !x523) hH (i := 2) rfl Tryz.underlying65 Tryz.underlying3 rfl rfl rfl hB hA ?_
           intro w528 hH529 ht530
           replace hr426 := Tr.trans (Dw := False) hr426 ht530
           replace hH : Hp B A525 w528 (obC b29 [v47] 52 :: obPS (ob_portref2_ticking) 54 v47 s234.2 :: obSM (κ := Int) (α := Bool) b433 (mapPut (mapPut (mapPut ([] : List (Int × Bool)) 1 ((k37 : Int) == 0)) 2 false) 3 (!x523)) :: L) := hH529
           refine V_y (Y_move rfl) rfl rfl rfl ?_
           refine V_y (Y_assign rfl) rfl rfl rfl ?_
           obtain rfl := Option.some.inj ho424
           refine V_end (fun a ha531 => ?_)
           replace hH : Hp B A525 w528 (obPS (ob_portref2_ticking) 54 v47 s234.2 :: obC b29 [v47] 52 :: obSM (κ := Int) (α := Bool) b433 (mapPut (mapPut (mapPut ([] : List (Int × Bool)) 1 ((k37 : Int) == 0)) 2 false) 3 (!x523)) :: L) := Hp.front hH (i := 1) rfl
           replace hH : Hp B A525 w528 (obSM (κ := Int) (α := Bool) b433 (mapPut (mapPut (mapPut ([] : List (Int × Bool)) 1 ((k37 : Int) == 0)) 2 false) 3 (!x523)) :: obPS (ob_portref2_ticking) 54 v47 s234.2 :: obC b29 [v47] 52 :: L) := Hp.front hH (i := 2) rfl
           exact ⟨(b433, A525), ha531.sub ⟨rfl, rfl, rfl, rfl, rfl, rfl, rfl, rfl, rfl, rfl, rfl, trivial⟩, ⟨hH, hr426⟩⟩
          ·rw [if_neg (nt hc517)] at ho424
           refine V_gn rfl rfl rfl hc517 rfl rfl rfl ?_
           refine V_gn rfl rfl rfl hc517 rfl rfl rfl ?_
           refine V_gn rfl rfl rfl hc517 rfl rfl rfl ?_
           refine V_gn rfl rfl rfl hc517 rfl rfl rfl ?_
           refine V_y (Y_pick_fe rfl hc517 rfl) rfl rfl rfl ?_
           refine V_mapUpdateSI (Dw := False) (κ := Int) (α := Bool) (l := (mapPut (mapPut ([] : List (Int × Bool)) 1 ((k37 : Int) == 0)) 2 false)) (c := false) hH (i := 0) rfl Tryz.underlying65 Tryz.underlying3 rfl rfl rfl hB hA ?_
           intro w532 hH533 ht534
           replace hr426 := Tr.trans (Dw := False) hr426 ht534
           replace hH : Hp B A435 w532 (obSM (κ := Int) (α := Bool) b433 (mapPut (mapPut (mapPut ([] : List (Int × Bool)) 1 ((k37 : Int) == 0)) 2 false) 3 false) :: obPS (ob_portref2_ticking) 54 v47 s234.2 :: obC b29 [v47] 52 :: L) := hH533
           refine V_y (Y_move rfl) rfl rfl rfl ?_
           refine V_y (Y_assign rfl) rfl rfl rfl ?_
           obtain rfl := Option.some.inj ho424
           refine V_end (fun a ha535 => ?_)
           exact ⟨(b433, A435), ha535.sub ⟨rfl, rfl, rfl, rfl, rfl, rfl, rfl, rfl, rfl, rfl, rfl, trivial⟩, ⟨hH, hr426⟩⟩
         ·rw [if_neg (nt hc514)] at ho424
          refine V_ge rfl rfl rfl hc514 ?_
          refine V_y (Y_move rfl) rfl rfl rfl ?_
          refine V_ge rfl rfl rfl hc514 ?_
          refine V_y (Y_move rfl) rfl rfl rfl ?_
          refine V_ge rfl rfl rfl hc514 ?_
          refine V_y (Y_subI rfl rfl) rfl rfl rfl ?_
          refine V_ge rfl rfl rfl hc514 ?_
          obtain ⟨x536, hx536, ho424⟩ := Option.bind_eq_some_iff.1 ho424
          refine V_indexAddr h_l hx536 Tryz.underlying26 Tryz.sizeOf41 rfl rfl rfl ?_
          intro b537 o538 h539
          refine V_ge rfl rfl rfl hc514 ?_
          have h540 := El_level_Point_3 h539
          refine V_y (Y_fieldAddr Tryz.underlying41 rfl Tryz.sizeOf3 (by decide) rfl) rfl rfl rfl ?_
          refine V_ge rfl rfl rfl hc514 ?_
          refine V_y (Y_load (El.int h540) Tryz.isAgg3 rfl) rfl rfl rfl ?_
          refine V_ge rfl rfl rfl hc514 ?_
          refine V_call Tryz.call17 rfl rfl rfl rfl (portref2_over_c w511 x536.status) ?_
          rintro _ _ ⟨rfl, rfl⟩
          refine V_y (Y_pick_fe rfl hc514 rfl) rfl rfl rfl ?_
          refine V_y (Y_move rfl) rfl rfl rfl ?_
          rcases Bool.eq_false_or_eq_true ((portref2_over x536.status)) with hc541 | hc541
          ·rw [if_pos hc541] at ho424
           refine V_ge rfl rfl rfl hc541 ?_
           have h542 := El_level_Point_3 h85
           refine V_y (Y_fieldAddr Tryz.underlying41 rfl Tryz.sizeOf3 (by decide) rfl) rfl rfl rfl ?_
           refine V_ge rfl rfl rfl hc541 ?_
           refine V_y (Y_load (El.int h542) Tryz.isAgg3 rfl) rfl rfl rfl ?_
           refine V_ge rfl rfl rfl hc541 ?_
           refine V_y (Y_neq rfl rfl) rfl rfl rfl ?_
           refine V_y (Y_pick_te rfl hc541 rfl) rfl rfl rfl ?_
           refine V_y (Y_move rfl) rfl rfl rfl ?_
           rcases Bool.eq_false_or_eq_true (x70.status != 5) with hc543 | hc543
           ·rw [if_pos hc543] at ho424
            refine V_ge rfl rfl rfl hc543 ?_
            refine V_y (Y_move rfl) rfl rfl rfl ?_
            refine V_ge rfl rfl rfl hc543 ?_
            refine V_buildSlice (Dw := False) (l := ([3] : List Int)) (len := 1) Tryz.underlying22 Tryz.sizeOf3 Tryz.zeroValue3 rfl (by with_unfolding_all rfl) (show (1 * 1 : Nat) ≠ 0 by decide) (show (1 * 1 : Nat) ≤ 2 ^ 24 by decide) hA ⟨[.int .i64 3], _, rfl, rfl, rfl⟩ rfl rfl ?_
            intro v544 w545 hk547 h546
            have ht548 := Kp.tr (Dw := False) hk547 hA hB
            replace hH := Hp.kp (Dw := False) hH hk547
            replace hr426 := Tr.trans (Dw := False) hr426 ht548
            replace hB := Nat.le_trans hB ht548.ex.size
            replace hA := ht548.new
            refine V_ge rfl rfl rfl hc543 ?_
            replace hH : Hp B A435 w545 (obPS (ob_portref2_ticking) 54 v47 s234.2 :: obSM (κ := Int) (α := Bool) b433 (mapPut (mapPut ([] : List (Int × Bool)) 1 ((k37 : Int) == 0)) 2 false) :: obC b29 [v47] 52 :: L) := Hp.front hH (i := 1) rfl
            replace hH : Hp B A435 w545 (obC b29 [v47] 52 :: obPS (ob_portref2_ticking) 54 v47 s234.2 :: obSM (κ := Int) (α := Bool) b433 (mapPut (mapPut ([] : List (Int × Bool)) 1 ((k37 : Int) == 0)) 2 false) :: L) := Hp.front hH (i := 2) rfl
            obtain ⟨x549, hx549, ho424⟩ := Option.bind_eq_some_iff.1 ho424
            refine V_call Tryz.call12 rfl rfl rfl rfl (portref2_ClocksOf_1_c (Dw := False) w545 hB hA ([3] : List Int) v544 h546 s234.2 b29 v47 hH hx549) ?_
            rintro _ w550 ⟨A551, rfl, hH552, ht553⟩
            replace hr426 := Tr.trans (Dw := False) hr426 ht553
            replace hB := Nat.le_trans hB ht553.ex.size
            replace hA := ht553.new
            replace hH : Hp B A551 w550 (obC b29 [v47] 52 :: obPS (ob_portref2_ticking) 54 v47 s234.2 :: obSM (κ := Int) (α := Bool) b433 (mapPut (mapPut ([] : List (Int × Bool)) 1 ((k37 : Int) == 0)) 2 false) :: L) := hH552
            refine V_ge rfl rfl rfl hc543 ?_
            refine V_y (Y_not rfl) rfl rfl rfl ?_
            refine V_y (Y_pick_te rfl hc543 rfl) rfl rfl rfl ?_
            refine V_mapUpdateSI (Dw := False) (κ := Int) (α := Bool) (l := (mapPut (mapPut ([] : List (Int × Bool)) 1 ((k37 : Int) == 0)) 2 false)) (c := !x549) hH (i := 2) rfl Tryz.underlying65 Tryz.underlying3 rfl rfl rfl hB hA ?_
            intro w554 hH555 ht556
            replace hr426 := Tr.trans (Dw := False) hr426 ht556
            replace hH : Hp B A551 w554 (obC b29 [v47] 52 :: obPS (ob_portref2_ticking) 54 v47 s234.2 :: obSM (κ := Int) (α := Bool) b433 (mapPut (mapPut (mapPut ([] : List (Int × Bool)) 1 ((k37 : Int) == 0)) 2 false) 3 (!x549)) :: L) := hH555
            refine V_y (Y_move rfl) rfl rfl rfl ?_
            refine V_y (Y_assign rfl) rfl rfl rfl ?_
            obtain rfl := Option.some.inj ho424
            refine V_end (fun a ha557 => ?_)
            replace hH : Hp B A551 w554 (obPS (ob_portref2_ticking) 54 v47 s234.2 :: obC b29 [v47] 52 :: obSM (κ := Int) (α := Bool) b433 (mapPut (mapPut (mapPut ([] : List (Int × Bool)) 1 ((k37 : Int) == 0)) 2 false) 3 (!x549)) :: L) := Hp.front hH (i := 1) rfl
            replace hH : Hp B A551 w554 (obSM (κ := Int) (α := Bool) b433 (mapPut (mapPut (mapPut ([] : List (Int × Bool)) 1 ((k37 : Int) == 0)) 2 false) 3 (!x549)) :: obPS (ob_portref2_ticking) 54 v47 s234.2 :: obC b29 [v47] 52 :: L) := Hp.front hH (i := 2) rfl
            exact ⟨(b433, A551), ha557.sub ⟨rfl, rfl, rfl, rfl, rfl, rfl, rfl, rfl, rfl, rfl, rfl, trivial⟩, ⟨hH, hr426⟩⟩
           ·rw [if_neg (nt hc543)] at ho424
            refine V_gn rfl rfl rfl hc543 rfl rfl rfl ?_
            refine V_gn rfl rfl rfl hc543 rfl rfl rfl ?_
            refine V_gn rfl rfl rfl hc543 rfl rfl rfl ?_
            refine V_gn rfl rfl rfl hc543 rfl rfl rfl ?_
            refine V_y (Y_pick_fe rfl hc543 rfl) rfl rfl rfl ?_
            refine V_mapUpdateSI (Dw := False) (κ := Int) (α := Bool) (l := (mapPut (mapPut ([] : List (Int × Bool)) 1 ((k37 : Int) == 0)) 2 false)) (c := false) hH (i := 0) rfl Tryz.underlying65 Tryz.underlying3 rfl rfl rfl hB hA ?_
            intro w558 hH559 ht560
            replace hr426 := Tr.trans (Dw := False) hr426 ht560
            replace hH : Hp B A435 w558 (obSM (κ := Int) (α := Bool) b433 (mapPut (mapPut (mapPut ([] : List (Int × Bool)) 1 ((k37 : Int) == 0)) 2 false) 3 false) :: obPS (ob_portref2_ticking) 54 v47 s234.2 :: obC b29 [v47] 52 :: L) := hH559
            refine V_y (Y_move rfl) rfl rfl rfl ?_
            refine V_y (Y_assign rfl) rfl rfl rfl ?_
            obtain rfl := Option.some.inj ho424
            refine V_end (fun a ha561 => ?_)
            exact ⟨(b433, A435), ha561.sub ⟨rfl, rfl, rfl, rfl, rfl, rfl, rfl, rfl, rfl, rfl, rfl, trivial⟩, ⟨hH, hr426⟩⟩
          ·rw [if_neg (nt hc541)] at ho424
           refine V_gn rfl rfl rfl hc541 rfl rfl rfl ?_
           refine V_gn rfl rfl rfl hc541 rfl rfl rfl ?_
           refine V_gn rfl rfl rfl hc541 rfl rfl rfl ?_
           refine V_y (Y_pick_fe rfl hc541 rfl) rfl rfl rfl ?_
           refine V_y (Y_move rfl) rfl rfl rfl ?_
           have hc562 : (false : Bool) = false := rfl
           refine V_gn rfl rfl rfl hc562 rfl rfl rfl ?_
           refine V_gn rfl rfl rfl hc562 rfl rfl rfl ?_
           refine V_gn rfl rfl rfl hc562 rfl rfl rfl ?_
           refine V_gn rfl rfl rfl hc562 rfl rfl rfl ?_
           refine V_y (Y_pick_fe rfl hc562 rfl) rfl rfl rfl ?_
           refine V_mapUpdateSI (Dw := False) (κ := Int) (α := Bool) (l := (mapPut (mapPut ([] : List (Int × Bool)) 1 ((k37 : Int) == 0)) 2 false)) (c := false) hH (i := 0) rfl Tryz.underlying65 Tryz.underlying3 rfl rfl rfl hB hA ?_
           intro w563 hH564 ht565
           replace hr426 := Tr.trans (Dw := False) hr426 ht565
           replace hH : Hp B A435 w563 (obSM (κ := Int) (α := Bool) b433 (mapPut (mapPut (mapPut ([] : List (Int × Bool)) 1 ((k37 : Int) == 0)) 2 false) 3 false) :: obPS (ob_portref2_ticking) 54 v47 s234.2 :: obC b29 [v47] 52 :: L) := hH564
           refine V_y (Y_move rfl) rfl rfl rfl ?_
           refine V_y (Y_assign rfl) rfl rfl rfl ?_
           obtain rfl := Option.some.inj ho424
           refine V_end (fun a ha566 => ?_)
           exact ⟨(b433, A435), ha566.sub ⟨rfl, rfl, rfl, rfl, rfl, rfl, rfl, rfl, rfl, rfl, rfl, trivial⟩, ⟨hH, hr426⟩⟩
       ·rw [if_neg (nt hc442)] at ho424
        refine V_gn rfl rfl rfl hc442 rfl rfl rfl ?_
        refine V_gn rfl rfl rfl hc442 rfl rfl rfl ?_
        refine V_gn rfl rfl rfl hc442 rfl rfl rfl ?_
        refine V_y (Y_pick_fe rfl hc442 rfl) rfl rfl rfl ?_
        refine V_y (Y_move rfl) rfl rfl rfl ?_
        have hc567 : (false : Bool) = false := rfl
        refine V_gn rfl rfl rfl hc567 rfl rfl rfl ?_
        refine V_gn rfl rfl rfl hc567 rfl rfl rfl ?_
        refine V_gn rfl rfl rfl hc567 rfl rfl rfl ?_
        refine V_gn rfl rfl rfl hc567 rfl rfl rfl ?_
        refine V_y (Y_pick_fe rfl hc567 rfl) rfl rfl rfl ?_
        refine V_mapUpdateSI (Dw := False) (κ := Int) (α := Bool) (l := (mapPut ([] : List (Int × Bool)) 1 ((k37 : Int) == 0))) (c := false) hH (i := 0) rfl Tryz.underlying65 Tryz.underlying3 rfl rfl rfl hB hA ?_
        intro w568 hH569 ht570
        replace h_l := Sl.tr (Dw := False) h_l ht570
        replace h85 := El.tr (Dw := False) h85 ht570
        replace hr426 := Tr.trans (Dw := False) hr426 ht570
        replace hB := Nat.le_trans hB ht570.ex.size
        replace hA := ht570.new
        replace hH : Hp B A435 w568 (obSM (κ := Int) (α := Bool) b433 (mapPut (mapPut ([] : List (Int × Bool)) 1 ((k37 : Int) == 0)) 2 false) :: obPS (ob_portref2_ticking) 54 v47 s234.2 :: obC b29 [v47] 52 :: L) := hH569
        refine V_y (Y_move rfl) rfl rfl rfl ?_
        refine V_y (Y_eql rfl rfl) rfl rfl rfl ?_
        refine V_y (Y_move rfl) rfl rfl rfl ?_
        rcases Bool.eq_false_or_eq_true ((k37 : Int) == 0) with hc571 | hc571
        ·rw [if_pos hc571] at ho424
         refine V_gn rfl rfl rfl hc571 rfl rfl rfl ?_
         refine V_gn rfl rfl rfl hc571 rfl rfl rfl ?_
         refine V_gn rfl rfl rfl hc571 rfl rfl rfl ?_
         refine V_gn rfl rfl rfl hc571 rfl rfl rfl ?_
         refine V_gn rfl rfl rfl hc571 rfl rfl rfl ?_
         refine V_gn rfl rfl rfl hc571 rfl rfl rfl ?_
         refine V_gn rfl rfl rfl hc571 rfl rfl rfl ?_
         refine V_y (Y_pick_te rfl hc571 rfl) rfl rfl rfl ?_
         refine V_y (Y_move rfl) rfl rfl rfl ?_
         have hc572 : (true : Bool) = true := rfl
         refine V_ge rfl rfl rfl hc572 ?_
         have h573 := El_level_Point_3 h85
         refine V_y (Y_fieldAddr Tryz.underlying41 rfl Tryz.sizeOf3 (by decide) rfl) rfl rfl rfl ?_
         refine V_ge rfl rfl rfl hc572 ?_
         refine V_y (Y_load (El.int h573) Tryz.isAgg3 rfl) rfl rfl rfl ?_
         refine V_ge rfl rfl rfl hc572 ?_
         refine V_y (Y_neq rfl rfl) rfl rfl rfl ?_
         refine V_y (Y_pick_te rfl hc572 rfl) rfl rfl rfl ?_
         refine V_y (Y_move rfl) rfl rfl rfl ?_
         rcases Bool.eq_false_or_eq_true (x70.status != 5) with hc574 | hc574
         ·rw [if_pos hc574] at ho424
          refine V_ge rfl rfl rfl hc574 ?_
          refine V_y (Y_move rfl) rfl rfl rfl ?_
          refine V_ge rfl rfl rfl hc574 ?_
          refine V_buildSlice (Dw := False) (l := ([3] : List Int)) (len := 1) Tryz.underlying22 Tryz.sizeOf3 Tryz.zeroValue3 rfl (by with_unfolding_all rfl) (show (1 * 1 : Nat) ≠ 0 by decide) (show (1 * 1 : Nat) ≤ 2 ^ 24 by decide) hA ⟨[.int .i64 3], _, rfl, rfl, rfl⟩ rfl rfl ?_
          intro v575 w576 hk578 h577
          have ht579 := Kp.tr (Dw := False) hk578 hA hB
          replace hH := Hp.kp (Dw := False) hH hk578
          replace hr426 := Tr.trans (Dw := False) hr426 ht579
          replace hB := Nat.le_trans hB ht579.ex.size
          replace hA := ht579.new
          refine V_ge rfl rfl rfl hc574 ?_
          replace hH : Hp B A435 w576 (obPS (ob_portref2_ticking) 54 v47 s234.2 :: obSM (κ := Int) (α := Bool) b433 (mapPut (mapPut ([] : List (Int × Bool)) 1 ((k37 : Int) == 0)) 2 false) :: obC b29 [v47] 52 :: L) := Hp.front hH (i := 1) rfl
          replace hH : Hp B A435 w576 (obC b29 [v47] 52 :: obPS (ob_portref2_ticking) 54 v47 s234.2 :: obSM (κ := Int) (α := Bool) b433 (mapPut (mapPut ([] : List (Int × Bool)) 1 ((k37 : Int) == 0)) 2 false) :: L) := Hp.front hH (i := 2) rfl
          obtain ⟨x580, hx580, ho424⟩ := Option.bind_eq_some_iff.1 ho424
          refine V_call Tryz.call12 rfl rfl rfl rfl (portref2_ClocksOf_1_c (Dw := False) w576 hB hA ([3] : List Int) v575 h577 s234.2 b29 v47 hH hx580) ?_
          rintro _ w581 ⟨A582, rfl, hH583, ht584⟩
          replace hr426 := Tr.trans (Dw := False) hr426 ht584
          replace hB := Nat.le_trans hB ht584.ex.size
          replace hA := ht584.new
          replace hH : Hp B A582 w581 (obC b29 [v47] 52 :: obPS (ob_portref2_ticking) 54 v47 s234.2 :: obSM (κ := Int) (α := Bool) b433 (mapPut (mapPut ([] : List (Int × Bool)) 1 ((k37 : Int) == 0)) 2 false) :: L) := hH583
          refine V_ge rfl rfl rfl hc574 ?_
          refine V_y (Y_not rfl) rfl rfl rfl ?_
          refine V_y (Y_pick_te rfl hc574 rfl) rfl rfl rfl ?_
          refine V_mapUpdateSI (Dw := False) (κ := Int) (α := Bool) (l := (mapPut (mapPut ([] : List (Int × Bool)) 1 ((k37 : Int) == 0)) 2 false)) (c := !x580) hH (i := 2) rfl Tryz.underlying65 Tryz.underlying3 rfl rfl rfl hB hA ?_
          intro w585 hH586 ht587
          replace hr426 := Tr.trans (Dw := False) hr426 ht587
          replace hH : Hp B A582 w585 (obC b29 [v47] 52 :: obPS (ob_portref2_ticking) 54 v47 s234.2 :: obSM (κ := Int) (α := Bool) b433 (mapPut (mapPut (mapPut ([] : List (Int × Bool)) 1 ((k37 : Int) == 0)) 2 false) 3 (!x580)) :: L) := hH586
          refine V_y (Y_move rfl) rfl rfl rfl ?_
          refine V_y (Y_assign rfl) rfl rfl rfl ?_
          obtain rfl := Option.some.inj ho424
          refine V_end (fun a ha588 => ?_)
          replace hH : Hp B A582 w585 (obPS (ob_portref2_ticking) 54 v47 s234.2 :: obC b29 [v47] 52 :: obSM (κ := Int) (α := Bool) b433 (mapPut (mapPut (mapPut ([] : List (Int × Bool)) 1 ((k37 : Int) == 0)) 2 false) 3 (!x580)) :: L) := Hp.front hH (i := 1) rfl
          replace hH : Hp B A582 w585 (obSM (κ := Int) (α := Bool) b433 (mapPut (mapPut (mapPut ([] : List (Int × Bool)) 1 ((k37 : Int) == 0)) 2 false) 3 (!x580)) :: obPS (ob_portref2_ticking) 54 v47 s234.2 :: obC b29 [v47] 52 :: L) := Hp.front hH (i := 2) rfl
          exact ⟨(b433, A582), ha588.sub ⟨rfl, rfl, rfl, rfl, rfl, rfl, rfl, rfl, rfl, rfl, rfl, trivial⟩, ⟨hH, hr426⟩⟩
         ·rw [if_neg (nt hc574)] at ho424
          refine V_gn rfl rfl rfl hc574 rfl rfl rfl ?_
          refine V_gn rfl rfl rfl hc574 rfl rfl rfl ?_
          refine V_gn rfl rfl rfl hc574 rfl rfl rfl ?_
          refine V_gn rfl rfl rfl hc574 rfl rfl rfl ?_
          refine V_y (Y_pick_fe rfl hc574 rfl) rfl rfl rfl ?_
          refine V_mapUpdateSI (Dw := False) (κ := Int) (α := Bool) (l := (mapPut (mapPut ([] : List (Int × Bool)) 1 ((k37 : Int) == 0)) 2 false)) (c := false) hH (i := 0) rfl Tryz.underlying65 Tryz.underlying3 rfl rfl rfl hB hA ?_
          intro w589 hH590 ht591
          replace hr426 := Tr.trans (Dw := False) hr426 ht591
          replace hH : Hp B A435 w589 (obSM (κ := Int) (α := Bool) b433 (mapPut (mapPut (mapPut ([] : List (Int × Bool)) 1 ((k37 : Int) == 0)) 2 false) 3 false) :: obPS (ob_portref2_ticking) 54 v47 s234.2 :: obC b29 [v47] 52 :: L) := hH590
          refine V_y (Y_move rfl) rfl rfl rfl ?_
          refine V_y (Y_assign rfl) rfl rfl rfl ?_
          obtain rfl := Option.some.inj ho424
          refine V_end (fun a ha592 => ?_)
          exact ⟨(b433, A435), ha592.sub ⟨rfl, rfl, rfl, rfl, rfl, rfl, rfl, rfl, rfl, rfl, rfl, trivial⟩, ⟨hH, hr426⟩⟩
        ·rw [if_neg (nt hc571)] at ho424
         refine V_ge rfl rfl rfl hc571 ?_
         refine V_y (Y_move rfl) rfl rfl rfl ?_
         refine V_ge rfl rfl rfl hc571 ?_
         refine V_y (Y_move rfl) rfl rfl rfl ?_
         refine V_ge rfl rfl rfl hc571 ?_
         refine V_y (Y_subI rfl rfl) rfl rfl rfl ?_
         refine V_ge rfl rfl rfl hc571 ?_
         obtain ⟨x593, hx593, ho424⟩ := Option.bind_eq_some_iff.1 ho424
         refine V_indexAddr h_l hx593 Tryz.underlying26 Tryz.sizeOf41 rfl rfl rfl ?_
         intro b594 o595 h596
         refine V_ge rfl rfl rfl hc571 ?_
         have h597 := El_level_Point_3 h596
         refine V_y (Y_fieldAddr Tryz.underlying41 rfl Tryz.sizeOf3 (by decide) rfl) rfl rfl rfl ?_
         refine V_ge rfl rfl rfl hc571 ?_
         refine V_y (Y_load (El.int h597) Tryz.isAgg3 rfl) rfl rfl rfl ?_
         refine V_ge rfl rfl rfl hc571 ?_
         refine V_call Tryz.call17 rfl rfl rfl rfl (portref2_over_c w568 x593.status) ?_
         rintro _ _ ⟨rfl, rfl⟩
         refine V_y (Y_pick_fe rfl hc571 rfl) rfl rfl rfl ?_
         refine V_y (Y_move rfl) rfl rfl rfl ?_
         rcases Bool.eq_false_or_eq_true ((portref2_over x593.status)) with hc598 | hc598
         ·rw [if_pos hc598] at ho424
          refine V_ge rfl rfl rfl hc598 ?_
          have h599 := El_level_Point_3 h85
          refine V_y (Y_fieldAddr Tryz.underlying41 rfl Tryz.sizeOf3 (by decide) rfl) rfl rfl rfl ?_
          refine V_ge rfl rfl rfl hc598 ?_
          refine V_y (Y_load (El.int h599) Tryz.isAgg3 rfl) rfl rfl rfl ?_
          refine V_ge rfl rfl rfl hc598 ?_
          refine V_y (Y_neq rfl rfl) rfl rfl rfl ?_
          refine V_y (Y_pick_te rfl hc598 rfl) rfl rfl rfl ?_
          refine V_y (Y_move rfl) rfl rfl rfl ?_
          rcases Bool.eq_false_or_eq_true (x70.status != 5) with hc600 | hc600
          ·rw [if_pos hc600] at ho424
           refine V_ge rfl rfl rfl hc600 ?_
           refine V_y (Y_move rfl) rfl rfl rfl ?_
           refine V_ge rfl rfl rfl hc600 ?_
           refine V_buildSlice (Dw := False) (l := ([3] : List Int)) (len := 1) Tryz.underlying22 Tryz.sizeOf3 Tryz.zeroValue3 rfl (by with_unfolding_all rfl) (show (1 * 1 : Nat) ≠ 0 by decide) (show (1 * 1 : Nat) ≤ 2 ^ 24 by decide) hA ⟨[.int .i64 3], _, rfl, rfl, rfl⟩ rfl rfl ?_
           intro v601 w602 hk604 h603
           have ht605 := Kp.tr (Dw := False) hk604 hA hB
           replace hH := Hp.kp (Dw := False) hH hk604
           replace hr426 := Tr.trans (Dw := False) hr426 ht605
           replace hB := Nat.le_trans hB ht605.ex.size
           replace hA := ht605.new
           refine V_ge rfl rfl rfl hc600 ?_
           replace hH : Hp B A435 w602 (obPS (ob_portref2_ticking) 54 v47 s234.2 :: obSM (κ := Int) (α := Bool) b433 (mapPut (mapPut ([] : List (Int × Bool)) 1 ((k37 : Int) == 0)) 2 false) :: obC b29 [v47] 52 :: L) := Hp.front hH (i := 1) rfl
           replace hH : Hp B A435 w602 (obC b29 [v47] 52 :: obPS (ob_portref2_ticking) 54 v47 s234.2 :: obSM (κ := Int) (α := Bool) b433 (mapPut (mapPut ([] : List (Int × Bool)) 1 ((k37 : Int) == 0)) 2 false) :: L) := Hp.front hH (i := 2) rfl
           obtain ⟨x606, hx606, ho424⟩ := Option.bind_eq_some_iff.1 ho424
           refine V_call Tryz.call12 rfl rfl rfl rfl (portref2_ClocksOf_1_c (Dw := False) w602 hB hA ([3] : List Int) v601 h603 s234.2 b29 v47 hH hx606) ?_
           rintro _ w607 ⟨A608, rfl, hH609, ht610⟩
           replace hr426 := Tr.trans (Dw := False) hr426 ht610
           replace hB := Nat.le_trans hB ht610.ex.size
           replace hA := ht610.new
           replace hH : Hp B A608 w607 (obC b29 [v47] 52 :: obPS (ob_portref2_ticking) 54 v47 s234.2 :: obSM (κ := Int) (α := Bool) b433 (mapPut (mapPut ([] : List (Int × Bool)) 1 ((k37 : Int) == 0)) 2 false) :: L) := hH609
           refine V_ge rfl rfl rfl hc600 ?_
           refine V_y (Y_not rfl) rfl rfl rfl ?_
           refine V_y (Y_pick_te rfl hc600 rfl) rfl rfl rfl ?_
           refine V_mapUpdateSI (Dw := False) (κ := Int) (α := Bool) (l := (mapPut (mapPut ([] : List (Int × Bool)) 1 ((k37 : Int) == 0)) 2 false)) (c := !x606) hH (i := 2) rfl Tryz.underlying65 Tryz.underlying3 rfl rfl rfl hB hA ?_
           intro w611 hH612 ht613
           replace hr426 := Tr.trans (Dw := False) hr426 ht613
           replace hH : Hp B A608 w611 (obC b29 [v47] 52 :: obPS (ob_portref2_ticking) 54 v47 s234.2 :: obSM (κ := Int) (α := Bool) b433 (mapPut (mapPut (mapPut ([] : List (Int × Bool)) 1 ((k37 : Int) == 0)) 2 false) 3 (!x606)) :: L) := hH612
           refine V_y (Y_move rfl) rfl rfl rfl ?_
           refine V_y (Y_assign rfl) rfl rfl rfl ?_
           obtain rfl := Option.some.inj ho424
           refine V_end (fun a ha614 => ?_)
           replace hH : Hp B A608 w611 (obPS (ob_portref2_ticking) 54 v47 s234.2 :: obC b29 [v47] 52 :: obSM (κ := Int) (α := Bool) b433 (mapPut (mapPut (mapPut ([] : List (Int × Bool)) 1 ((k37 : Int) == 0)) 2 false) 3 (!x606)) :: L) := Hp.front hH (i := 1) rfl
           replace hH : Hp B A608 w611 (obSM (κ := Int) (α := Bool) b433 (mapPut (mapPut (mapPut ([] : List (Int × Bool)) 1 ((k37 : Int) == 0)) 2 false) 3 (!x606)) :: obPS (ob_portref2_ticking) 54 v47 s234.2 :: obC b29 [v47] 52 :: L) := Hp.front hH (i := 2) rfl
           exact ⟨(b433, A608), ha614.sub ⟨rfl, rfl, rfl, rfl, rfl, rfl, rfl, rfl, rfl, rfl, rfl, trivial⟩, ⟨hH, hr426⟩⟩
          ·rw [if_neg (nt hc600)] at ho424
           refine V_gn rfl rfl rfl hc600 rfl rfl rfl ?_
           refine V_gn rfl rfl rfl hc600 rfl rfl rfl ?_
           refine V_gn rfl rfl rfl hc600 rfl rfl rfl ?_
           refine V_gn rfl rfl rfl hc600 rfl rfl rfl ?_
           refine V_y (Y_pick_fe rfl hc600 rfl) rfl rfl rfl ?_
           refine V_mapUpdateSI (Dw := False) (κ := Int) (α := Bool) (l := (mapPut (mapPut ([] : List (Int × Bool)) 1 ((k37 : Int) == 0)) 2 false)) (c := false) hH (i := 0) rfl Tryz.underlying65 Tryz.underlying3 rfl rfl rfl hB hA ?_
           intro w615 hH616 ht617
           replace hr426 := Tr.trans (Dw := False) hr426 ht617
           replace hH : Hp B A435 w615 (obSM (κ := Int) (α := Bool) b433 (mapPut (mapPut (mapPut ([] : List (Int × Bool)) 1 ((k37 : Int) == 0)) 2 false) 3 false) :: obPS (ob_portref2_ticking) 54 v47 s234.2 :: obC b29 [v47] 52 :: L) := hH616
           refine V_y (Y_move rfl) rfl rfl rfl ?_
           refine V_y (Y_assign rfl) rfl rfl rfl ?_
           obtain rfl := Option.some.inj ho424
           refine V_end (fun a ha618 => ?_)
           exact ⟨(b433, A435), ha618.sub ⟨rfl, rfl, rfl, rfl, rfl, rfl, rfl, rfl, rfl, rfl, rfl, trivial⟩, ⟨hH, hr426⟩⟩
         ·rw [if_neg (nt hc598)] at ho424
          refine V_gn rfl rfl rfl hc598 rfl rfl rfl ?_
          refine V_gn rfl rfl rfl hc598 rfl rfl rfl ?_
          refine V_gn rfl rfl rfl hc598 rfl rfl rfl ?_
          refine V_y (Y_pick_fe rfl hc598 rfl) rfl rfl rfl ?_
          refine V_y (Y_move rfl) rfl rfl rfl ?_
          have hc619 : (false : Bool) = false := rfl
          refine V_gn rfl rfl rfl hc619 rfl rfl rfl ?_
          refine V_gn rfl rfl rfl hc619 rfl rfl rfl ?_
          refine V_gn rfl rfl rfl hc619 rfl rfl rfl ?_
          refine V_gn rfl rfl rfl hc619 rfl rfl rfl ?_
          refine V_y (Y_pick_fe rfl hc619 rfl) rfl rfl rfl ?_
          refine V_mapUpdateSI (Dw := False) (κ := Int) (α := Bool) (l := (mapPut (mapPut ([] : List (Int × Bool)) 1 ((k37 : Int) == 0)) 2 false)) (c := false) hH (i := 0) rfl Tryz.underlying65 Tryz.underlying3 rfl rfl rfl hB hA ?_
          intro w620 hH621 ht622
          replace hr426 := Tr.trans (Dw := False) hr426 ht622
          replace hH : Hp B A435 w620 (obSM (κ := Int) (α := Bool) b433 (mapPut (mapPut (mapPut ([] : List (Int × Bool)) 1 ((k37 : Int) == 0)) 2 false) 3 false) :: obPS (ob_portref2_ticking) 54 v47 s234.2 :: obC b29 [v47] 52 :: L) := hH621
          refine V_y (Y_move rfl) rfl rfl rfl ?_
          refine V_y (Y_assign rfl) rfl rfl rfl ?_
          obtain rfl := Option.some.inj ho424
          refine V_end (fun a ha623 => ?_)
          exact ⟨(b433, A435), ha623.sub ⟨rfl, rfl, rfl, rfl, rfl, rfl, rfl, rfl, rfl, rfl, rfl, trivial⟩, ⟨hH, hr426⟩⟩
      rintro ⟨pb427, A431⟩ w428 ⟨hH432, hk429⟩ a ha430
      replace h11 := El.tr (Dw := False) h11 hk429
      replace h85 := El.tr (Dw := False) h85 hk429
      replace hr62 := Tr.trans (Dw := False) hr62 hk429
      replace hB := Nat.le_trans hB hk429.ex.size
      replace hA := hk429.new
      replace hH : Hp B A431 w428 (obSM (κ := Int) (α := Bool) pb427 s425 :: obPS (ob_portref2_ticking) 54 v47 s234.2 :: obC b29 [v47] 52 :: L) := hH432
      refine C_at (n := ⟨351, [], none⟩) (fun _ _ => rfl) ?_ ha430
      refine C_seq ?_
      refine C_seq ?_
      refine C_region ?_
      refine V_y (Y_move rfl) rfl rfl rfl ?_
      refine V_y (Y_eql rfl rfl) rfl rfl rfl ?_
      refine V_y (Y_move rfl) rfl rfl rfl ?_
      refine V_cut 3 (fun _ : Unit => [(1, v_l), (2, .pointer (some ⟨b7, 0, none⟩)), (8, .pointer (some ⟨b29, 0, none⟩)), (9, .int .i64 s234.1), (10, .func (.func 12) #[] #[.pointer (some ⟨b29, 0, none⟩)]), (12, .pointer (some ⟨b77, 0, none⟩)), (21, .map (some pb427)), (43, v_l), (44, .int .i64 (l.length : Int)), (45, .int .i64 (k37 : Int)), (222, .bool (((k37 : Int) == 0) && ((mapGet s425 1).getD false)))]) (fun _ w' => w428 = w') ?_ ?_
      ·simp only [List.take, List.drop]
       rcases Bool.eq_false_or_eq_true ((k37 : Int) == 0) with hc624 | hc624
       ·refine V_ge rfl rfl rfl hc624 ?_
        refine V_y (Y_move rfl) rfl rfl rfl ?_
        refine V_ge rfl rfl rfl hc624 ?_
        refine V_y (Y_lookupS (κ := Int) (α := Bool) (z := false) (l := s425) hH (i := 0) rfl Tryz.underlying65 Tryz.underlying3 Tryz.zeroValue4 rfl rfl rfl) rfl rfl rfl ?_
        refine V_y (Y_pick_te rfl hc624 rfl) rfl rfl rfl ?_
        exact V_end fun a ha => ⟨(), ha.sub ⟨rfl, rfl, rfl, rfl, rfl, rfl, rfl, rfl, rfl, rfl, (by rw [hc624]; rfl), trivial⟩, rfl⟩
       ·refine V_gn rfl rfl rfl hc624 rfl rfl rfl ?_
        refine V_gn rfl rfl rfl hc624 rfl rfl rfl ?_
        refine V_y (Y_pick_fe rfl hc624 rfl) rfl rfl rfl ?_
        exact V_end fun a ha => ⟨(), ha.sub ⟨rfl, rfl, rfl, rfl, rfl, rfl, rfl, rfl, rfl, rfl, (by rw [hc624]; rfl), trivial⟩, rfl⟩
      simp only [List.take, List.drop]
      rintro _ _ rfl
      refine V_to (fun _ _ => rfl) ?_
      obtain ⟨s627, ho626, ho60⟩ := Option.bind_eq_some_iff.1 ho60
      refine C_cutG (ι := (Nat → Prop)) (fun (A632 : (Nat → Prop)) => [(1, v_l), (2, .pointer (some ⟨b7, 0, none⟩)), (8, .pointer (some ⟨b29, 0, none⟩)), (9, .int .i64 s234.1), (10, .func (.func 12) #[] #[.pointer (some ⟨b29, 0, none⟩)]), (12, .pointer (some ⟨b77, 0, none⟩)), (21, .map (some pb427)), (43, v_l), (44, .int .i64 (l.length : Int)), (45, .int .i64 (k37 : Int))]) (fun (A632 : (Nat → Prop)) => fun w' => Hp B A632 w' (obSM (κ := Int) (α := Bool) pb427 s627 :: obPS (ob_portref2_ticking) 54 v47 s234.2 :: obC b29 [v47] 52 :: L) ∧ Tr False B A431 w428 A632 w') ?_ ?_
      ·have hr628 : Tr False B A431 w428 A431 w428 := Tr.refl (Dw := False) hA
       refine C_cond rfl (fun hc634 => ?_) (fun hc634 => ?_)
       ·rw [if_pos hc634] at ho626
        refine C_seq ?_
        refine C_region ?_
        obtain ⟨v635, v637, h639, h636, h638⟩ := El_level_Policy h11
        refine V_y (Y_loadA h639 Tryz.isAgg25 Tryz.sizeOf25 rfl) rfl rfl rfl ?_
        refine V_y (Y_move rfl) rfl rfl rfl ?_
        obtain ⟨x640, hx640, ho626⟩ := Option.bind_eq_some_iff.1 ho626
        refine V_call Tryz.call19 rfl rfl rfl rfl (portref2_targetOf_c (Dw := False) w428 hA p v635 h636 v637 h638 s234.1 1 hx640) ?_
        rintro _ w641 ⟨rfl, hk642⟩
        have ht643 := Kp.tr (Dw := False) hk642 hA hB
        replace hH := Hp.kp (Dw := False) hH hk642
        replace h85 := El.tr (Dw := False) h85 ht643
        replace hr628 := Tr.trans (Dw := False) hr628 ht643
        replace hB := Nat.le_trans hB ht643.ex.size
        replace hA := ht643.new
        refine V_y (Y_move rfl) rfl rfl rfl ?_
        refine V_y (Y_extract rfl rfl) rfl rfl rfl ?_
        refine V_y (Y_extract rfl rfl) rfl rfl rfl ?_
        refine V_alloc Tryz.zeroValue49 rfl ?_
        intro b644 w645 h646
        refine V_storeNew h646 Tryz.sizeOf49 rfl rfl rfl rfl (by exact (List.forall_mem_cons.2 ⟨rfl, (List.forall_mem_cons.2 ⟨rfl, (List.forall_mem_cons.2 ⟨rfl, (fun _ h => nomatch h)⟩)⟩)⟩)) ?_
        intro w647 h648
        have hk650 := h648.kp (Dw := False)
        have h649 : El (α := level_Target) A431 w647 b644 0 x640.1 := h648.el hA ⟨[.int .i64 x640.1.kind], _, rfl, rfl, ⟨[.int .i64 x640.1.minutes], _, rfl, rfl, rfl⟩⟩
        have ht651 := Kp.tr (Dw := False) hk650 hA hB
        replace hH := Hp.kp (Dw := False) hH hk650
        replace h85 := El.tr (Dw := False) h85 ht651
        replace hr628 := Tr.trans (Dw := False) hr628 ht651
        replace hB := Nat.le_trans hB ht651.ex.size
        replace hA := ht651.new
        refine V_y (Y_assign rfl) rfl rfl rfl ?_
        refine V_to (fun _ _ => rfl) ?_
        refine C_seq ?_
        refine C_region ?_
        refine V_y (Y_move rfl) rfl rfl rfl ?_
        refine V_y (Y_move rfl) rfl rfl rfl ?_
        refine V_cut 4 (fun _ : Unit => [(1, v_l), (2, .pointer (some ⟨b7, 0, none⟩)), (8, .pointer (some ⟨b29, 0, none⟩)), (9, .int .i64 s234.1), (10, .func (.func 12) #[] #[.pointer (some ⟨b29, 0, none⟩)]), (12, .pointer (some ⟨b77, 0, none⟩)), (21, .map (some pb427)), (43, v_l), (44, .int .i64 (l.length : Int)), (45, .int .i64 (k37 : Int)), (234, .bool (x640.2 && (x70.status != 6)))]) (fun _ w' => w647 = w') ?_ ?_
        ·simp only [List.take, List.drop]
         rcases Bool.eq_false_or_eq_true (x640.2) with hc652 | hc652
         ·refine V_ge rfl rfl rfl hc652 ?_
          have h654 := El_level_Point_3 h85
          refine V_y (Y_fieldAddr Tryz.underlying41 rfl Tryz.sizeOf3 (by decide) rfl) rfl rfl rfl ?_
          refine V_ge rfl rfl rfl hc652 ?_
          refine V_y (Y_load (El.int h654) Tryz.isAgg3 rfl) rfl rfl rfl ?_
          refine V_ge rfl rfl rfl hc652 ?_
          refine V_y (Y_neq rfl rfl) rfl rfl rfl ?_
          refine V_y (Y_pick_te rfl hc652 rfl) rfl rfl rfl ?_
          exact V_end fun a ha => ⟨(), ha.sub ⟨rfl, rfl, rfl, rfl, rfl, rfl, rfl, rfl, rfl, rfl, (by rw [hc652]; rfl), trivial⟩, rfl⟩
         ·refine V_gn rfl rfl rfl hc652 rfl rfl rfl ?_
          refine V_gn rfl rfl rfl hc652 rfl rfl rfl ?_
          refine V_gn rfl rfl rfl hc652 rfl rfl rfl ?_
          refine V_y (Y_pick_fe rfl hc652 rfl) rfl rfl rfl ?_
          exact V_end fun a ha => ⟨(), ha.sub ⟨rfl, rfl, rfl, rfl, rfl, rfl, rfl, rfl, rfl, rfl, (by rw [hc652]; rfl), trivial⟩, rfl⟩
        simp only [List.take, List.drop]
        rintro _ _ rfl
        refine V_to (fun _ _ => rfl) ?_
        obtain ⟨s656, ho655, ho626⟩ := Option.bind_eq_some_iff.1 ho626
        refine C_cutG (ι := (Nat → Prop)) (fun (A661 : (Nat → Prop)) => [(1, v_l), (2, .pointer (some ⟨b7, 0, none⟩)), (8, .pointer (some ⟨b29, 0, none⟩)), (9, .int .i64 s234.1), (10, .func (.func 12) #[] #[.pointer (some ⟨b29, 0, none⟩)]), (12, .pointer (some ⟨b77, 0, none⟩)), (21, .map (some pb427)), (43, v_l), (44, .int .i64 (l.length : Int)), (45, .int .i64 (k37 : Int))]) (fun (A661 : (Nat → Prop)) => fun w' => Hp B A661 w' (obSM (κ := Int) (α := Bool) pb427 s656 :: obPS (ob_portref2_ticking) 54 v47 s234.2 :: obC b29 [v47] 52 :: L) ∧ Tr False B A431 w647 A661 w') ?_ ?_
        ·have hr657 : Tr False B A431 w647 A431 w647 := Tr.refl (Dw := False) hA
         refine C_cond rfl (fun hc663 => ?_) (fun hc663 => ?_)
         ·rw [if_pos hc663] at ho655
          refine C_region ?_
          refine V_y (Y_move rfl) rfl rfl rfl ?_
          refine V_mapUpdateS (Dw := False) (κ := Int) (α := Bool) (l := s425) (c := false) hH (i := 0) rfl Tryz.underlying65 Tryz.underlying3 rfl rfl rfl hB hA ?_
          intro w664 hH665 ht666
          replace hr657 := Tr.trans (Dw := False) hr657 ht666
          replace hH : Hp B A431 w664 (obSM (κ := Int) (α := Bool) pb427 (mapPut s425 2 false) :: obPS (ob_portref2_ticking) 54 v47 s234.2 :: obC b29 [v47] 52 :: L) := hH665
          obtain rfl := Option.some.inj ho655
          refine V_end (fun a ha667 => ?_)
          exact ⟨A431, ha667.sub ⟨rfl, rfl, rfl, rfl, rfl, rfl, rfl, rfl, rfl, rfl, trivial⟩, ⟨hH, hr657⟩⟩
         ·rw [if_neg (nt hc663)] at ho655
          obtain rfl := Option.some.inj ho655
          refine C_skip (fun a ha668 => ?_)
          exact ⟨A431, ha668.sub ⟨rfl, rfl, rfl, rfl, rfl, rfl, rfl, rfl, rfl, rfl, trivial⟩, ⟨hH, hr657⟩⟩
        rintro A661 w658 ⟨hH662, hk659⟩ a ha660
        replace hr628 := Tr.trans (Dw := False) hr628 hk659
        replace hA := hk659.new
        replace hH : Hp B A661 w658 (obSM (κ := Int) (α := Bool) pb427 s656 :: obPS (ob_portref2_ticking) 54 v47 s234.2 :: obC b29 [v47] 52 :: L) := hH662
        obtain rfl := Option.some.inj ho626
        exact ⟨A661, ha660.sub ⟨rfl, rfl, rfl, rfl, rfl, rfl, rfl, rfl, rfl, rfl, trivial⟩, ⟨hH, hr628⟩⟩
       ·rw [if_neg (nt hc634)] at ho626
        obtain rfl := Option.some.inj ho626
        refine C_skip (fun a ha670 => ?_)
        exact ⟨A431, ha670.sub ⟨rfl, rfl, rfl, rfl, rfl, rfl, rfl, rfl, rfl, rfl, trivial⟩, ⟨hH, hr628⟩⟩
      rintro A632 w629 ⟨hH633, hk630⟩ a ha631
      replace h11 := El.tr (Dw := False) h11 hk630
      replace h85 := El.tr (Dw := False) h85 hk630
      replace hr62 := Tr.trans (Dw := False) hr62 hk630
      replace hB := Nat.le_trans hB hk630.ex.size
      replace hA := hk630.new
      replace hH : Hp B A632 w629 (obSM (κ := Int) (α := Bool) pb427 s627 :: obPS (ob_portref2_ticking) 54 v47 s234.2 :: obC b29 [v47] 52 :: L) := hH633
      refine C_at (n := ⟨351, [], none⟩) (fun _ _ => rfl) ?_ ha631
      refine C_seq ?_
      refine C_seq ?_
      refine C_region ?_
      refine V_y (Y_assign rfl) rfl rfl rfl ?_
      refine V_to (fun _ _ => rfl) ?_
      obtain ⟨o671, ho671, ho60⟩ := Option.bind_eq_some_iff.1 ho60
      refine C_cutG (ι := ((Int × (List portref2_ticking)) × Value × (Nat → Prop))) (fun ⟨s672, v678, A680⟩ => [(1, v_l), (2, .pointer (some ⟨b7, 0, none⟩)), (8, .pointer (some ⟨b29, 0, none⟩)), (9, .int .i64 s234.1), (10, .func (.func 12) #[] #[.pointer (some ⟨b29, 0, none⟩)]), (12, .pointer (some ⟨b77, 0, none⟩)), (43, v_l), (44, .int .i64 (l.length : Int)), (45, .int .i64 (k37 : Int))]) (fun ⟨s672, v678, A680⟩ => fun w' => o671 = .fin s672 ∧ Hp B A680 w' (obSM (κ := Int) (α := Bool) pb427 s627 :: obPS (ob_portref2_ticking) 54 v678 s672.2 :: obC b29 [v678] 52 :: L) ∧ Tr False B A632 w629 A680 w') ?_ ?_
      ·refine C_block ?_
       refine C_while ho671 (fun s682 a w' => ∃ i : (Value × (Nat → Prop)), Has ⟨351, [], none⟩ a ([(1, v_l), (2, .pointer (some ⟨b7, 0, none⟩)), (8, .pointer (some ⟨b29, 0, none⟩)), (9, .int .i64 s234.1), (10, .func (.func 12) #[] #[.pointer (some ⟨b29, 0, none⟩)]), (12, .pointer (some ⟨b77, 0, none⟩)), (21, .map (some pb427)), (24, .int .i64 s682.1), (43, v_l), (44, .int .i64 (l.length : Int)), (45, .int .i64 (k37 : Int))]) ∧ Hp B i.2 w' (obSM (κ := Int) (α := Bool) pb427 s627 :: obPS (ob_portref2_ticking) 54 i.1 s682.2 :: obC b29 [i.1] 52 :: L) ∧ Tr False B A632 w629 i.2 w') (fun a ha => ⟨(v47, A632), ha.sub ⟨rfl, rfl, rfl, rfl, rfl, rfl, rfl, rfl, rfl, rfl, rfl, trivial⟩, ⟨hH, Tr.refl (Dw := False) hA⟩⟩) ?_
       rintro K s682 a w683 ⟨⟨v684, A686⟩, ha774, hH687, hr673⟩ K694
       refine C_of ?_ ha774
       replace h11 := El.tr (Dw := False) h11 hr673
       replace h85 := El.tr (Dw := False) h85 hr673
       replace hB := Nat.le_trans hB hr673.ex.size
       replace hA := hr673.new
       replace hH : Hp B A686 w683 (obSM (κ := Int) (α := Bool) pb427 s627 :: obPS (ob_portref2_ticking) 54 v684 s682.2 :: obC b29 [v684] 52 :: L) := hH687
       obtain ⟨x688, h689, h690⟩ := K694
       refine C_seq ?_
       refine C_seq ?_
       refine C_region ?_
       refine V_y (Y_move rfl) rfl rfl rfl ?_
       refine V_y (Y_leq rfl rfl) rfl rfl rfl ?_
       refine V_to (fun _ _ => rfl) ?_
       refine C_cond rfl (fun hc695 => ?_) (fun hc695 => ?_)
       ·rw [if_pos hc695] at h689
        refine C_skip_to (fun _ _ => rfl) ?_
        refine C_seq ?_
        obtain ⟨s697, ho696, h689⟩ := Option.bind_eq_some_iff.1 h689
        refine C_cutG (ι := (Value × (Nat → Prop))) (fun ⟨v699, A704⟩ => [(1, v_l), (2, .pointer (some ⟨b7, 0, none⟩)), (8, .pointer (some ⟨b29, 0, none⟩)), (9, .int .i64 s234.1), (10, .func (.func 12) #[] #[.pointer (some ⟨b29, 0, none⟩)]), (12, .pointer (some ⟨b77, 0, none⟩)), (21, .map (some pb427)), (24, .int .i64 s682.1), (43, v_l), (44, .int .i64 (l.length : Int)), (45, .int .i64 (k37 : Int))]) (fun ⟨v699, A704⟩ => fun w' => Hp B A704 w' (obSM (κ := Int) (α := Bool) pb427 s627 :: obPS (ob_portref2_ticking) 54 v699 s697 :: obC b29 [v699] 52 :: L) ∧ Tr False B A686 w683 A704 w') ?_ ?_
        ·have hr698 : Tr False B A686 w683 A686 w683 := Tr.refl (Dw := False) hA
         refine C_block ?_
         refine C_seq ?_
         refine C_region ?_
         obtain ⟨v706, v708, h710, h707, h709⟩ := El_level_Policy h11
         refine V_y (Y_loadA h710 Tryz.isAgg25 Tryz.sizeOf25 rfl) rfl rfl rfl ?_
         refine V_y (Y_move rfl) rfl rfl rfl ?_
         refine V_y (Y_move rfl) rfl rfl rfl ?_
         obtain ⟨x711, hx711, ho696⟩ := Option.bind_eq_some_iff.1 ho696
         refine V_call Tryz.call19 rfl rfl rfl rfl (portref2_targetOf_c (Dw := False) w683 hA p v706 h707 v708 h709 s234.1 s682.1 hx711) ?_
         rintro _ w712 ⟨rfl, hk713⟩
         have ht714 := Kp.tr (Dw := False) hk713 hA hB
         replace hH := Hp.kp (Dw := False) hH hk713
         replace h85 := El.tr (Dw := False) h85 ht714
         replace hr698 := Tr.trans (Dw := False) hr698 ht714
         replace hB := Nat.le_trans hB ht714.ex.size
         replace hA := ht714.new
         refine V_y (Y_move rfl) rfl rfl rfl ?_
         refine V_y (Y_extract rfl rfl) rfl rfl rfl ?_
         refine V_y (Y_extract rfl rfl) rfl rfl rfl ?_
         refine V_alloc Tryz.zeroValue49 rfl ?_
         intro b715 w716 h717
         refine V_storeNew h717 Tryz.sizeOf49 rfl rfl rfl rfl (by exact (List.forall_mem_cons.2 ⟨rfl, (List.forall_mem_cons.2 ⟨rfl, (List.forall_mem_cons.2 ⟨rfl, (fun _ h => nomatch h)⟩)⟩)⟩)) ?_
         intro w718 h719
         have hk721 := h719.kp (Dw := False)
         have h720 : El (α := level_Target) A686 w718 b715 0 x711.1 := h719.el hA ⟨[.int .i64 x711.1.kind], _, rfl, rfl, ⟨[.int .i64 x711.1.minutes], _, rfl, rfl, rfl⟩⟩
         have ht722 := Kp.tr (Dw := False) hk721 hA hB
         replace hH := Hp.kp (Dw := False) hH hk721
         replace h85 := El.tr (Dw := False) h85 ht722
         replace hr698 := Tr.trans (Dw := False) hr698 ht722
         replace hB := Nat.le_trans hB ht722.ex.size
         replace hA := ht722.new
         refine V_y (Y_assign rfl) rfl rfl rfl ?_
         refine V_to (fun _ _ => rfl) ?_
         refine C_seq ?_
         refine C_region ?_
         refine V_y (Y_move rfl) rfl rfl rfl ?_
         refine V_y (Y_move rfl) rfl rfl rfl ?_
         refine V_y (Y_lookupS (κ := Int) (α := Bool) (z := false) (l := s627) hH (i := 0) rfl Tryz.underlying65 Tryz.underlying3 Tryz.zeroValue4 rfl rfl rfl) rfl rfl rfl ?_
         refine V_y (Y_move rfl) rfl rfl rfl ?_
         refine V_cut 2 (fun _ : Unit => [(1, v_l), (2, .pointer (some ⟨b7, 0, none⟩)), (8, .pointer (some ⟨b29, 0, none⟩)), (9, .int .i64 s234.1), (10, .func (.func 12) #[] #[.pointer (some ⟨b29, 0, none⟩)]), (12, .pointer (some ⟨b77, 0, none⟩)), (21, .map (some pb427)), (24, .int .i64 s682.1), (25, .pointer (some ⟨b715, 0, none⟩)), (43, v_l), (44, .int .i64 (l.length : Int)), (45, .int .i64 (k37 : Int)), (252, .bool (((mapGet s627 s682.1).getD false) && x711.2))]) (fun _ w' => w718 = w') ?_ ?_
         ·simp only [List.take, List.drop]
          rcases Bool.eq_false_or_eq_true (((mapGet s627 s682.1).getD false)) with hc723 | hc723
          ·refine V_ge rfl rfl rfl hc723 ?_
           refine V_y (Y_move rfl) rfl rfl rfl ?_
           refine V_y (Y_pick_te rfl hc723 rfl) rfl rfl rfl ?_
           exact V_end fun a ha => ⟨(), ha.sub ⟨rfl, rfl, rfl, rfl, rfl, rfl, rfl, rfl, rfl, rfl, rfl, rfl, (by rw [hc723]; rfl), trivial⟩, rfl⟩
          ·refine V_gn rfl rfl rfl hc723 rfl rfl rfl ?_
           refine V_y (Y_pick_fe rfl hc723 rfl) rfl rfl rfl ?_
           exact V_end fun a ha => ⟨(), ha.sub ⟨rfl, rfl, rfl, rfl, rfl, rfl, rfl, rfl, rfl, rfl, rfl, rfl, (by rw [hc723]; rfl), trivial⟩, rfl⟩
         simp only [List.take, List.drop]
         rintro _ _ rfl
         refine V_y (Y_move rfl) rfl rfl rfl ?_
         refine V_cut 4 (fun _ : Unit => [(1, v_l), (2, .pointer (some ⟨b7, 0, none⟩)), (8, .pointer (some ⟨b29, 0, none⟩)), (9, .int .i64 s234.1), (10, .func (.func 12) #[] #[.pointer (some ⟨b29, 0, none⟩)]), (12, .pointer (some ⟨b77, 0, none⟩)), (21, .map (some pb427)), (24, .int .i64 s682.1), (25, .pointer (some ⟨b715, 0, none⟩)), (43, v_l), (44, .int .i64 (l.length : Int)), (45, .int .i64 (k37 : Int)), (257, .bool ((((mapGet s627 s682.1).getD false) && x711.2) && (x70.status != 6)))]) (fun _ w' => w718 = w') ?_ ?_
         ·simp only [List.take, List.drop]
          rcases Bool.eq_false_or_eq_true ((((mapGet s627 s682.1).getD false) && x711.2)) with hc725 | hc725
          ·refine V_ge rfl rfl rfl hc725 ?_
           have h727 := El_level_Point_3 h85
           refine V_y (Y_fieldAddr Tryz.underlying41 rfl Tryz.sizeOf3 (by decide) rfl) rfl rfl rfl ?_
           refine V_ge rfl rfl rfl hc725 ?_
           refine V_y (Y_load (El.int h727) Tryz.isAgg3 rfl) rfl rfl rfl ?_
           refine V_ge rfl rfl rfl hc725 ?_
           refine V_y (Y_neq rfl rfl) rfl rfl rfl ?_
           refine V_y (Y_pick_te rfl hc725 rfl) rfl rfl rfl ?_
           exact V_end fun a ha => ⟨(), ha.sub ⟨rfl, rfl, rfl, rfl, rfl, rfl, rfl, rfl, rfl, rfl, rfl, rfl, (by rw [hc725]; rfl), trivial⟩, rfl⟩
          ·refine V_gn rfl rfl rfl hc725 rfl rfl rfl ?_
           refine V_gn rfl rfl rfl hc725 rfl rfl rfl ?_
           refine V_gn rfl rfl rfl hc725 rfl rfl rfl ?_
           refine V_y (Y_pick_fe rfl hc725 rfl) rfl rfl rfl ?_
           exact V_end fun a ha => ⟨(), ha.sub ⟨rfl, rfl, rfl, rfl, rfl, rfl, rfl, rfl, rfl, rfl, rfl, rfl, (by rw [hc725]; rfl), trivial⟩, rfl⟩
         simp only [List.take, List.drop]
         rintro _ _ rfl
         refine V_to (fun _ _ => rfl) ?_
         obtain ⟨s729, ho728, ho696⟩ := Option.bind_eq_some_iff.1 ho696
         refine C_cutG (ι := (Value × (Nat → Prop))) (fun ⟨v731, A736⟩ => [(1, v_l), (2, .pointer (some ⟨b7, 0, none⟩)), (8, .pointer (some ⟨b29, 0, none⟩)), (9, .int .i64 s234.1), (10, .func (.func 12) #[] #[.pointer (some ⟨b29, 0, none⟩)]), (12, .pointer (some ⟨b77, 0, none⟩)), (21, .map (some pb427)), (24, .int .i64 s682.1), (43, v_l), (44, .int .i64 (l.length : Int)), (45, .int .i64 (k37 : Int))]) (fun ⟨v731, A736⟩ => fun w' => Hp B A736 w' (obSM (κ := Int) (α := Bool) pb427 s627 :: obPS (ob_portref2_ticking) 54 v731 s729 :: obC b29 [v731] 52 :: L) ∧ Tr False B A686 w718 A736 w') ?_ ?_
         ·have hr730 : Tr False B A686 w718 A686 w718 := Tr.refl (Dw := False) hA
          refine C_cond rfl (fun hc738 => ?_) (fun hc738 => ?_)
          ·rw [if_pos hc738] at ho728
           refine C_region ?_
           refine V_y (Y_load (Hp.cell (j := 0) hH (i := 2) rfl rfl) Tryz.isAgg52 rfl) rfl rfl rfl ?_
           refine V_y (Y_move rfl) rfl rfl rfl ?_
           refine V_y (Y_move rfl) rfl rfl rfl ?_
           have h739 := El_level_Target_1 h720
           refine V_y (Y_fieldAddr Tryz.underlying49 rfl Tryz.sizeOf3 (by decide) rfl) rfl rfl rfl ?_
           refine V_y (Y_load (El.int h739) Tryz.isAgg3 rfl) rfl rfl rfl ?_
           have h740 := El_level_Point_0 h85
           refine V_y (Y_fieldAddr Tryz.underlying41 rfl Tryz.sizeOf3 (by decide) rfl) rfl rfl rfl ?_
           refine V_y (Y_load (El.int h740) Tryz.isAgg3 rfl) rfl rfl rfl ?_
           refine V_y (Y_build Tryz.underlying47 Tryz.zeroValue47 (Tryz_places47 _ Tryz.underlying47) rfl (by with_unfolding_all rfl)) rfl rfl rfl ?_
           have h741 := El_level_Target_2 h720
           refine V_y (Y_fieldAddr Tryz.underlying49 rfl Tryz.sizeOf3 (by decide) rfl) rfl rfl rfl ?_
           refine V_y (Y_load (El.int h741) Tryz.isAgg3 rfl) rfl rfl rfl ?_
           refine V_y (Y_build (cells := #[.int .i64 s682.1, .int .i64 s234.1, .int .i64 x711.1.minutes, .int .i64 x70.at_, .int .i64 (-1), .int .i64 0, .slice none 0 0, .int .i64 (-1), .int .i64 0, .int .i64 x711.1.calendar]) Tryz.underlying56 Tryz.zeroValue56 (Tryz_places56 _ Tryz.underlying56) rfl (by generalize (x711.1.calendar : Int) = z742; generalize (x711.1.minutes : Int) = z743; generalize (x70.at_ : Int) = z744; generalize (s682.1 : Int) = z745; generalize (s234.1 : Int) = z746; kernel_rfl)) rfl rfl rfl ?_
           refine V_boxH (Dw := False) (B := B) hH rfl hB hA rfl ?_
           intro b747 w748 A749 hH750 ht751
           replace hr730 := Tr.trans (Dw := False) hr730 ht751
           replace hB := Nat.le_trans hB ht751.ex.size
           replace hA := ht751.new
           replace hH : Hp B A749 w748 (obC b747 [.int .i64 s682.1, .int .i64 s234.1, .int .i64 x711.1.minutes, .int .i64 x70.at_, .int .i64 (-1), .int .i64 0, .slice none 0 0, .int .i64 (-1), .int .i64 0, .int .i64 x711.1.calendar] 56 :: obSM (κ := Int) (α := Bool) pb427 s627 :: obPS (ob_portref2_ticking) 54 v684 s682.2 :: obC b29 [v684] 52 :: L) := hH750
           replace hH : Hp B A749 w748 (obS (α := level_Piece) 67 (.slice none 0 0) ([] : (List level_Piece)) :: obC b747 [.int .i64 s682.1, .int .i64 s234.1, .int .i64 x711.1.minutes, .int .i64 x70.at_, .int .i64 (-1), .int .i64 0, .slice none 0 0, .int .i64 (-1), .int .i64 0, .int .i64 x711.1.calendar] 56 :: obSM (κ := Int) (α := Bool) pb427 s627 :: obPS (ob_portref2_ticking) 54 v684 s682.2 :: obC b29 [v684] 52 :: L) := Hp.addNil (α := level_Piece) (e := 67) hH
           replace hH : Hp B A749 w748 (obC b747 [.int .i64 s682.1, .int .i64 s234.1, .int .i64 x711.1.minutes, .int .i64 x70.at_, .int .i64 (-1), .int .i64 0, .slice none 0 0, .int .i64 (-1), .int .i64 0, .int .i64 x711.1.calendar] 56 :: obS (α := level_Piece) 67 (.slice none 0 0) ([] : (List level_Piece)) :: obSM (κ := Int) (α := Bool) pb427 s627 :: obPS (ob_portref2_ticking) 54 v684 s682.2 :: obC b29 [v684] 52 :: L) := Hp.front hH (i := 1) rfl
           replace hH : Hp B A749 w748 (ob_portref2_ticking b747 (⟨(⟨s682.1, s234.1, x711.1.minutes, x70.at_, (-1), 0, ([] : (List level_Piece))⟩ : level_Clock), (-1), 0, x711.1.calendar⟩ : portref2_ticking) :: obSM (κ := Int) (α := Bool) pb427 s627 :: obPS (ob_portref2_ticking) 54 v684 s682.2 :: obC b29 [v684] 52 :: L) := Hp.pack (F := obF_portref2_ticking b747 (⟨(⟨s682.1, s234.1, x711.1.minutes, x70.at_, (-1), 0, ([] : (List level_Piece))⟩ : level_Clock), (-1), 0, x711.1.calendar⟩ : portref2_ticking)) (.slice none 0 0) hH
           refine V_buildSlice (Dw := False) (l := [(⟨b747⟩ : Ptr)]) (len := 1) Tryz.underlying52 Tryz.sizeOf54 Tryz.zeroValue54 rfl (by with_unfolding_all rfl) (by decide) (by decide) hA ⟨[.pointer (some ⟨b747, 0, none⟩)], _, rfl, rfl, rfl⟩ rfl rfl ?_
           intro v752 w753 hk755 h754
           have ht756 := Kp.tr (Dw := False) hk755 hA hB
           replace hH := Hp.kp (Dw := False) hH hk755
           replace hr730 := Tr.trans (Dw := False) hr730 ht756
           replace hB := Nat.le_trans hB ht756.ex.size
           replace hA := ht756.new
           obtain ⟨x757, hx757, ho728⟩ := Option.bind_eq_some_iff.1 ho728
           refine V_appendPS (Dw := False) (f := ob_portref2_ticking) (e := 54) (v := v684) (cs := s682.2) (c := (⟨(⟨s682.1, s234.1, x711.1.minutes, x70.at_, (-1), 0, ([] : (List level_Piece))⟩ : level_Clock), (-1), 0, x711.1.calendar⟩ : portref2_ticking)) (ti := Tryz.t54) (bytes := 8) (lim := 17592186044416) hH (i := 1) rfl h754 hx757 Tryz.underlying52 Tryz_info54 rfl rfl rfl rfl (by decide) (by decide) hB hA rfl rfl rfl ?_
           intro v758 w759 A760 hH761 ht762
           replace hr730 := Tr.trans (Dw := False) hr730 ht762
           replace hB := Nat.le_trans hB ht762.ex.size
           replace hA := ht762.new
           replace hH : Hp B A760 w759 (obSM (κ := Int) (α := Bool) pb427 s627 :: obPS (ob_portref2_ticking) 54 v758 x757 :: obC b29 [v684] 52 :: L) := hH761
           have h768 : (v758).oneCell' = true := Hp.psOne (f := ob_portref2_ticking) (e := 54) (v := v758) (cs := x757) hH (i := 1) rfl
           refine V_storeC (Dw := False) (off := 0) (ds := [v758]) hH (i := 2) rfl Tryz.sizeOf52 (by rw [← Array.length_toList, Value.cells_one h768]; rfl) (Nat.le_of_ble_eq_true rfl) (by intro u hu; rw [Value.cells_one h768] at hu; simp at hu; subst hu; assumption) (by rw [Value.cells_one h768]; rfl) hB hA rfl rfl ?_
           intro w763 hH764 ht765
           replace hr730 := Tr.trans (Dw := False) hr730 ht765
           replace hH : Hp B A760 w763 (obSM (κ := Int) (α := Bool) pb427 s627 :: obPS (ob_portref2_ticking) 54 v758 x757 :: obC b29 [v758] 52 :: L) := hH764
           obtain rfl := Option.some.inj ho728
           refine V_end (fun a ha769 => ?_)
           exact ⟨(v758, A760), ha769.sub ⟨rfl, rfl, rfl, rfl, rfl, rfl, rfl, rfl, rfl, rfl, rfl, trivial⟩, ⟨hH, hr730⟩⟩
          ·rw [if_neg (nt hc738)] at ho728
           obtain rfl := Option.some.inj ho728
           refine C_skip (fun a ha770 => ?_)
           exact ⟨(v684, A686), ha770.sub ⟨rfl, rfl, rfl, rfl, rfl, rfl, rfl, rfl, rfl, rfl, rfl, trivial⟩, ⟨hH, hr730⟩⟩
         rintro ⟨v731, A736⟩ w733 ⟨hH737, hk734⟩ a ha735
         replace hr698 := Tr.trans (Dw := False) hr698 hk734
         replace hA := hk734.new
         replace hH : Hp B A736 w733 (obSM (κ := Int) (α := Bool) pb427 s627 :: obPS (ob_portref2_ticking) 54 v731 s729 :: obC b29 [v731] 52 :: L) := hH737
         obtain rfl := Option.some.inj ho696
         exact ⟨(v731, A736), ha735.sub ⟨rfl, rfl, rfl, rfl, rfl, rfl, rfl, rfl, rfl, rfl, rfl, trivial⟩, ⟨hH, hr698⟩⟩
        rintro ⟨v699, A704⟩ w701 ⟨hH705, hk702⟩ a ha703
        replace hr673 := Tr.trans (Dw := False) hr673 hk702
        replace hA := hk702.new
        replace hH : Hp B A704 w701 (obSM (κ := Int) (α := Bool) pb427 s627 :: obPS (ob_portref2_ticking) 54 v699 s697 :: obC b29 [v699] 52 :: L) := hH705
        refine C_at (n := ⟨351, [], none⟩) (fun _ _ => rfl) ?_ ha703
        refine C_region ?_
        refine V_y (Y_move rfl) rfl rfl rfl ?_
        refine V_y (Y_addI rfl rfl) rfl rfl rfl ?_
        refine V_y (Y_assign rfl) rfl rfl rfl ?_
        obtain rfl := Option.some.inj h689
        refine V_end (fun a ha772 => ?_)
        exact ⟨(w64 (s682.1 + 1), s697), h690, ⟨(v699, A704), ha772.sub ⟨rfl, rfl, rfl, rfl, rfl, rfl, rfl, rfl, rfl, rfl, rfl, trivial⟩, ⟨hH, hr673⟩⟩⟩
       ·rw [if_neg (nt hc695)] at h689
        obtain rfl := Option.some.inj h689
        refine C_exit (fun a ha773 => ?_)
        exact ⟨((s682.1, s682.2), v684, A686), ha773.sub ⟨rfl, rfl, rfl, rfl, rfl, rfl, rfl, rfl, rfl, trivial⟩, ⟨h690.symm, hH, hr673⟩⟩
      rintro ⟨s672, v678, A680⟩ w675 ⟨rfl, hH681, hk676⟩ a ha677
      rw [Lp.andThen_fin] at ho60
      replace h11 := El.tr (Dw := False) h11 hk676
      replace h85 := El.tr (Dw := False) h85 hk676
      replace hr62 := Tr.trans (Dw := False) hr62 hk676
      replace hB := Nat.le_trans hB hk676.ex.size
      replace hA := hk676.new
      replace hH : Hp B A680 w675 (obSM (κ := Int) (α := Bool) pb427 s627 :: obPS (ob_portref2_ticking) 54 v678 s672.2 :: obC b29 [v678] 52 :: L) := hH681
      refine C_at (n := ⟨351, [], none⟩) (fun _ _ => rfl) ?_ ha677
      refine C_seq ?_
      refine C_region ?_
      refine V_y (Y_load (Hp.cell (j := 0) hH (i := 2) rfl rfl) Tryz.isAgg52 rfl) rfl rfl rfl ?_
      refine V_y (Y_lenPS (Hp.psForm (f := ob_portref2_ticking) (e := 54) (v := v678) (cs := s672.2) hH (i := 1) rfl) rfl Tryz.underlying52 rfl) rfl rfl rfl ?_
      refine V_y (Y_move rfl) rfl rfl rfl ?_
      refine V_to (fun _ _ => rfl) ?_
      have hn795 := Hp.psLe (f := ob_portref2_ticking) (e := 54) (v := v678) (cs := s672.2) hH (i := 1) rfl
      obtain ⟨o775, ho775, ho60⟩ := Option.bind_eq_some_iff.1 ho60
      refine C_cutG (ι := ((List portref2_ticking) × (Nat → Prop))) (fun ⟨s776, A782⟩ => [(1, v_l), (2, .pointer (some ⟨b7, 0, none⟩)), (8, .pointer (some ⟨b29, 0, none⟩)), (9, .int .i64 s234.1), (10, .func (.func 12) #[] #[.pointer (some ⟨b29, 0, none⟩)]), (43, v_l), (44, .int .i64 (l.length : Int)), (45, .int .i64 (k37 : Int))]) (fun ⟨s776, A782⟩ => fun w' => o775 = .fin s776 ∧ Hp B A782 w' (obSM (κ := Int) (α := Bool) pb427 s627 :: obPS (ob_portref2_ticking) 54 v678 s776 :: obC b29 [v678] 52 :: L) ∧ Tr False B A680 w675 A782 w') ?_ ?_
      ·refine C_block ?_
       refine C_range ho775 (fun k778 s784 a w' => ∃ i : (Nat → Prop), Has ⟨351, [], none⟩ a ([(1, v_l), (2, .pointer (some ⟨b7, 0, none⟩)), (8, .pointer (some ⟨b29, 0, none⟩)), (9, .int .i64 s234.1), (10, .func (.func 12) #[] #[.pointer (some ⟨b29, 0, none⟩)]), (12, .pointer (some ⟨b77, 0, none⟩)), (43, v_l), (44, .int .i64 (l.length : Int)), (45, .int .i64 (k37 : Int)), (272, v678), (273, .int .i64 (s672.2.length : Int)), (274, .int .i64 (k778 : Int))]) ∧ Hp B i w' (obSM (κ := Int) (α := Bool) pb427 s627 :: obPS (ob_portref2_ticking) 54 v678 s784 :: obC b29 [v678] 52 :: L) ∧ Tr False B A680 w675 i w') (fun a ha => ⟨A680, ha.sub ⟨rfl, rfl, rfl, rfl, rfl, rfl, rfl, rfl, rfl, rfl, rfl, rfl, trivial⟩, ⟨hH, Tr.refl (Dw := False) hA⟩⟩) ?_
       rintro K k778 s784 a w785 ⟨A786, ha857, hH787, hr777⟩ hle791 K794 h793
       refine C_of ?_ ha857
       replace h11 := El.tr (Dw := False) h11 hr777
       replace h85 := El.tr (Dw := False) h85 hr777
       replace hB := Nat.le_trans hB hr777.ex.size
       replace hA := hr777.new
       replace hH : Hp B A786 w785 (obSM (κ := Int) (α := Bool) pb427 s627 :: obPS (ob_portref2_ticking) 54 v678 s784 :: obC b29 [v678] 52 :: L) := hH787
       refine C_seq (C_region (V_y (Y_lss rfl rfl) rfl rfl rfl (V_to (fun _ _ => rfl) ?_)))
       refine C_seq ?_
       refine C_cond rfl (fun hc796 => ?_) (fun hc796 => ?_)
       ·have hlt792 := lt_of_dec hc796
        obtain ⟨x788, h789, h790⟩ := K794 hlt792
        refine C_skip_to (fun _ _ => rfl) ?_
        refine C_seq ?_
        obtain ⟨s798, ho797, h789⟩ := Option.bind_eq_some_iff.1 h789
        refine C_cutG (ι := (Nat → Prop)) (fun (A803 : (Nat → Prop)) => [(1, v_l), (2, .pointer (some ⟨b7, 0, none⟩)), (8, .pointer (some ⟨b29, 0, none⟩)), (9, .int .i64 s234.1), (10, .func (.func 12) #[] #[.pointer (some ⟨b29, 0, none⟩)]), (12, .pointer (some ⟨b77, 0, none⟩)), (43, v_l), (44, .int .i64 (l.length : Int)), (45, .int .i64 (k37 : Int)), (272, v678), (273, .int .i64 (s672.2.length : Int)), (274, .int .i64 (k778 : Int))]) (fun (A803 : (Nat → Prop)) => fun w' => Hp B A803 w' (obSM (κ := Int) (α := Bool) pb427 s627 :: obPS (ob_portref2_ticking) 54 v678 s798 :: obC b29 [v678] 52 :: L) ∧ Tr False B A786 w785 A803 w') ?_ ?_
        ·have hr799 : Tr False B A786 w785 A786 w785 := Tr.refl (Dw := False) hA
         refine C_block ?_
         refine C_seq ?_
         refine C_region ?_
         obtain ⟨x805, hx805, ho797⟩ := Option.bind_eq_some_iff.1 ho797
         refine V_indexAddrPS (f := ob_portref2_ticking) (e := 54) (v := v678) (cs := s784) hH (i := 1) rfl hx805 Tryz.underlying52 Tryz.sizeOf54 rfl rfl rfl ?_
         intro b806 o807 b809 hk810 h808 hH
         replace hH : Hp B A786 w785 (ob_portref2_ticking b809 x805 :: obSM (κ := Int) (α := Bool) pb427 s627 :: obPX (ob_portref2_ticking) 54 v678 s784 (Int.toNat (k778 : Int)) b809 :: obC b29 [v678] 52 :: L) := hH
         obtain ⟨v811, hH813⟩ := Hp.open (F := obF_portref2_ticking b809 x805) hH
         replace hH : Hp B A786 w785 (obC b809 [.int .i64 x805.c.kind, .int .i64 x805.c.level, .int .i64 x805.c.minutes, .int .i64 x805.c.start, .int .i64 x805.c.stop, .int .i64 x805.c.end_, v811, .int .i64 x805.now, .int .i64 x805.at_, .int .i64 x805.cal] 56 :: obS (α := level_Piece) 67 v811 x805.c.pieces :: obSM (κ := Int) (α := Bool) pb427 s627 :: obPX (ob_portref2_ticking) 54 v678 s784 (Int.toNat (k778 : Int)) b809 :: obC b29 [v678] 52 :: L) := hH813
         refine V_y (Y_load h808 Tryz.isAgg54 rfl) rfl rfl rfl ?_
         refine V_y (Y_assign rfl) rfl rfl rfl ?_
         refine V_to (fun _ _ => rfl) ?_
         refine C_seq ?_
         refine C_seq ?_
         refine C_region ?_
         refine V_y (Y_move rfl) rfl rfl rfl ?_
         refine V_y (Y_nilCheck rfl) rfl rfl rfl ?_
         refine V_y (Y_fieldAddrC (off2 := 0) Tryz.underlying56 rfl Tryz.sizeOf47 (by decide) rfl rfl) rfl rfl rfl ?_
         refine V_y (Y_fieldAddrC (off2 := 4) Tryz.underlying47 rfl Tryz.sizeOf3 (by decide) rfl rfl) rfl rfl rfl ?_
         refine V_y (Y_load (Hp.cell (j := 4) hH (i := 0) rfl rfl) Tryz.isAgg3 rfl) rfl rfl rfl ?_
         refine V_y (Y_geq rfl rfl) rfl rfl rfl ?_
         refine V_to (fun _ _ => rfl) ?_
         refine C_cond rfl (fun hc814 => ?_) (fun hc814 => ?_)
         ·rw [if_pos hc814] at ho797
          obtain rfl := Option.some.inj ho797
          refine C_exit (fun a ha815 => ?_)
          replace hH : Hp B A786 w785 (obS (α := level_Piece) 67 v811 x805.c.pieces :: obC b809 [.int .i64 x805.c.kind, .int .i64 x805.c.level, .int .i64 x805.c.minutes, .int .i64 x805.c.start, .int .i64 x805.c.stop, .int .i64 x805.c.end_, v811, .int .i64 x805.now, .int .i64 x805.at_, .int .i64 x805.cal] 56 :: obSM (κ := Int) (α := Bool) pb427 s627 :: obPX (ob_portref2_ticking) 54 v678 s784 (Int.toNat (k778 : Int)) b809 :: obC b29 [v678] 52 :: L) := Hp.front hH (i := 1) rfl
          replace hH : Hp B A786 w785 (obC b809 [.int .i64 x805.c.kind, .int .i64 x805.c.level, .int .i64 x805.c.minutes, .int .i64 x805.c.start, .int .i64 x805.c.stop, .int .i64 x805.c.end_, v811, .int .i64 x805.now, .int .i64 x805.at_, .int .i64 x805.cal] 56 :: obS (α := level_Piece) 67 v811 x805.c.pieces :: obSM (κ := Int) (α := Bool) pb427 s627 :: obPX (ob_portref2_ticking) 54 v678 s784 (Int.toNat (k778 : Int)) b809 :: obC b29 [v678] 52 :: L) := Hp.front hH (i := 1) rfl
          replace hH : Hp B A786 w785 (ob_portref2_ticking b809 x805 :: obSM (κ := Int) (α := Bool) pb427 s627 :: obPX (ob_portref2_ticking) 54 v678 s784 (Int.toNat (k778 : Int)) b809 :: obC b29 [v678] 52 :: L) := Hp.pack (F := obF_portref2_ticking b809 x805) v811 hH
          replace hH : Hp B A786 w785 (obSM (κ := Int) (α := Bool) pb427 s627 :: obPS (ob_portref2_ticking) 54 v678 s784 :: obC b29 [v678] 52 :: L) := Hp.psBack hH (i := 1) rfl hk810
          exact ⟨A786, ha815.sub ⟨rfl, rfl, rfl, rfl, rfl, rfl, rfl, rfl, rfl, rfl, rfl, rfl, trivial⟩, ⟨hH, hr799⟩⟩
         ·rw [if_neg (nt hc814)] at ho797
          refine C_skip_to (fun _ _ => rfl) ?_
          refine C_seq ?_
          refine C_region ?_
          have h816 := El_level_Policy_0 h11
          refine V_y (Y_fieldAddr Tryz.underlying25 rfl Tryz.sizeOf22 (by decide) rfl) rfl rfl rfl ?_
          obtain ⟨v817, h818, h819⟩ := El.list h816
          refine V_y (Y_load h818 Tryz.isAgg22 rfl) rfl rfl rfl ?_
          have h820 := El_level_Point_3 h85
          refine V_y (Y_fieldAddr Tryz.underlying41 rfl Tryz.sizeOf3 (by decide) rfl) rfl rfl rfl ?_
          refine V_y (Y_load (El.int h820) Tryz.isAgg3 rfl) rfl rfl rfl ?_
          obtain ⟨x821, hx821, ho797⟩ := Option.bind_eq_some_iff.1 ho797
          refine V_call Tryz.call15 rfl rfl rfl rfl (slices_Contains_Lint_int_c w785 p.pauses v817 h819 x70.status hx821) ?_
          rintro _ _ ⟨rfl, rfl⟩
          refine V_to (fun _ _ => rfl) ?_
          obtain ⟨s823, ho822, ho797⟩ := Option.bind_eq_some_iff.1 ho797
          refine C_cutG (ι := (Value × (Nat → Prop))) (fun ⟨v825, A830⟩ => [(1, v_l), (2, .pointer (some ⟨b7, 0, none⟩)), (8, .pointer (some ⟨b29, 0, none⟩)), (9, .int .i64 s234.1), (10, .func (.func 12) #[] #[.pointer (some ⟨b29, 0, none⟩)]), (12, .pointer (some ⟨b77, 0, none⟩)), (43, v_l), (44, .int .i64 (l.length : Int)), (45, .int .i64 (k37 : Int)), (272, v678), (273, .int .i64 (s672.2.length : Int)), (274, .int .i64 (k778 : Int))]) (fun ⟨v825, A830⟩ => fun w' => Hp B A830 w' (obC b809 [.int .i64 s823.c.kind, .int .i64 s823.c.level, .int .i64 s823.c.minutes, .int .i64 s823.c.start, .int .i64 s823.c.stop, .int .i64 s823.c.end_, v825, .int .i64 s823.now, .int .i64 s823.at_, .int .i64 s823.cal] 56 :: obS (α := level_Piece) 67 v825 s823.c.pieces :: obSM (κ := Int) (α := Bool) pb427 s627 :: obPX (ob_portref2_ticking) 54 v678 s784 (Int.toNat (k778 : Int)) b809 :: obC b29 [v678] 52 :: L) ∧ Tr False B A786 w785 A830 w') ?_ ?_
          ·have hr824 : Tr False B A786 w785 A786 w785 := Tr.refl (Dw := False) hA
           refine C_cond rfl (fun hc832 => ?_) (fun hc832 => ?_)
           ·rw [if_pos hc832] at ho822
            refine C_region ?_
            refine V_y (Y_move rfl) rfl rfl rfl ?_
            have h833 := El_level_Point_0 h85
            refine V_y (Y_fieldAddr Tryz.underlying41 rfl Tryz.sizeOf3 (by decide) rfl) rfl rfl rfl ?_
            refine V_y (Y_load (El.int h833) Tryz.isAgg3 rfl) rfl rfl rfl ?_
            replace hH : Hp B A786 w785 (obS (α := level_Piece) 67 v811 x805.c.pieces :: obC b809 [.int .i64 x805.c.kind, .int .i64 x805.c.level, .int .i64 x805.c.minutes, .int .i64 x805.c.start, .int .i64 x805.c.stop, .int .i64 x805.c.end_, v811, .int .i64 x805.now, .int .i64 x805.at_, .int .i64 x805.cal] 56 :: obSM (κ := Int) (α := Bool) pb427 s627 :: obPX (ob_portref2_ticking) 54 v678 s784 (Int.toNat (k778 : Int)) b809 :: obC b29 [v678] 52 :: L) := Hp.front hH (i := 1) rfl
            replace hH : Hp B A786 w785 (obC b809 [.int .i64 x805.c.kind, .int .i64 x805.c.level, .int .i64 x805.c.minutes, .int .i64 x805.c.start, .int .i64 x805.c.stop, .int .i64 x805.c.end_, v811, .int .i64 x805.now, .int .i64 x805.at_, .int .i64 x805.cal] 56 :: obS (α := level_Piece) 67 v811 x805.c.pieces :: obSM (κ := Int) (α := Bool) pb427 s627 :: obPX (ob_portref2_ticking) 54 v678 s784 (Int.toNat (k778 : Int)) b809 :: obC b29 [v678] 52 :: L) := Hp.front hH (i := 1) rfl
            obtain ⟨x834, hx834, ho822⟩ := Option.bind_eq_some_iff.1 ho822
            refine V_call Tryz.call20 rfl rfl rfl rfl (portref2_ticking_turn_c (Dw := False) w785 hB hA x805 b809 v811 x70.at_ (-1) hH hx834) ?_
            rintro _ w837 ⟨v835, A838, rfl, hH839, ht840⟩
            replace hr824 := Tr.trans (Dw := False) hr824 ht840
            replace hH : Hp B A838 w837 (obC b809 [.int .i64 x834.c.kind, .int .i64 x834.c.level, .int .i64 x834.c.minutes, .int .i64 x834.c.start, .int .i64 x834.c.stop, .int .i64 x834.c.end_, v835, .int .i64 x834.now, .int .i64 x834.at_, .int .i64 x834.cal] 56 :: obS (α := level_Piece) 67 v835 x834.c.pieces :: obSM (κ := Int) (α := Bool) pb427 s627 :: obPX (ob_portref2_ticking) 54 v678 s784 (Int.toNat (k778 : Int)) b809 :: obC b29 [v678] 52 :: L) := hH839
            obtain rfl := Option.some.inj ho822
            refine V_end (fun a ha841 => ?_)
            exact ⟨(v835, A838), ha841.sub ⟨rfl, rfl, rfl, rfl, rfl, rfl, rfl, rfl, rfl, rfl, rfl, rfl, trivial⟩, ⟨hH, hr824⟩⟩
           ·rw [if_neg (nt hc832)] at ho822
            refine C_region_qt (Dw := False) 7 Tryz_mixed (by kernel_rfl) ?_
            simp only [List.take, List.drop]
            refine VQ_y (fun w' hw' => Y_move rfl) rfl rfl rfl ?_
            have h842 := El_level_Point_0 h85
            refine VQ_y (fun w' hw' => Y_fieldAddr Tryz.underlying41 rfl Tryz.sizeOf3 (by decide) rfl) rfl rfl rfl ?_
            refine VQ_y (fun w' hw' => Y_load (El.int (El.kp (Dw := False) h842 hw')) Tryz.isAgg3 rfl) rfl rfl rfl ?_
            refine VQ_y (fun w' hw' => Y_move rfl) rfl rfl rfl ?_
            refine VQ_y (fun w' hw' => Y_nilCheck rfl) rfl rfl rfl ?_
            refine VQ_y (fun w' hw' => Y_fieldAddrC (off2 := 9) Tryz.underlying56 rfl Tryz.sizeOf3 (by decide) rfl rfl) rfl rfl rfl ?_
            refine VQ_y (fun w' hw' => Y_load ((World.cell?_of_block (hw'.block _ (World.block_lt_of_cell? _ _ (Hp.cell (j := 9) hH (i := 0) rfl rfl)))).trans (Hp.cell (j := 9) hH (i := 0) rfl rfl)) Tryz.isAgg3 rfl) rfl rfl rfl ?_
            refine VQ_tail (fun w843 hk844 => ?_)
            try simp only [List.take, List.drop]
            have ht845 := Kp.tr (Dw := False) hk844 hA hB
            replace hH := Hp.kp (Dw := False) hH hk844
            replace hr824 := Tr.trans (Dw := False) hr824 ht845
            replace hB := Nat.le_trans hB ht845.ex.size
            replace hA := ht845.new
            replace hH : Hp B A786 w843 (obS (α := level_Piece) 67 v811 x805.c.pieces :: obC b809 [.int .i64 x805.c.kind, .int .i64 x805.c.level, .int .i64 x805.c.minutes, .int .i64 x805.c.start, .int .i64 x805.c.stop, .int .i64 x805.c.end_, v811, .int .i64 x805.now, .int .i64 x805.at_, .int .i64 x805.cal] 56 :: obSM (κ := Int) (α := Bool) pb427 s627 :: obPX (ob_portref2_ticking) 54 v678 s784 (Int.toNat (k778 : Int)) b809 :: obC b29 [v678] 52 :: L) := Hp.front hH (i := 1) rfl
            replace hH : Hp B A786 w843 (obC b809 [.int .i64 x805.c.kind, .int .i64 x805.c.level, .int .i64 x805.c.minutes, .int .i64 x805.c.start, .int .i64 x805.c.stop, .int .i64 x805.c.end_, v811, .int .i64 x805.now, .int .i64 x805.at_, .int .i64 x805.cal] 56 :: obS (α := level_Piece) 67 v811 x805.c.pieces :: obSM (κ := Int) (α := Bool) pb427 s627 :: obPX (ob_portref2_ticking) 54 v678 s784 (Int.toNat (k778 : Int)) b809 :: obC b29 [v678] 52 :: L) := Hp.front hH (i := 1) rfl
            obtain ⟨x846, hx846, ho822⟩ := Option.bind_eq_some_iff.1 ho822
            refine V_call Tryz.call20 rfl rfl rfl rfl (portref2_ticking_turn_c (Dw := False) w843 hB hA x805 b809 v811 x70.at_ x805.cal hH hx846) ?_
            rintro _ w849 ⟨v847, A850, rfl, hH851, ht852⟩
            replace hr824 := Tr.trans (Dw := False) hr824 ht852
            replace hH : Hp B A850 w849 (obC b809 [.int .i64 x846.c.kind, .int .i64 x846.c.level, .int .i64 x846.c.minutes, .int .i64 x846.c.start, .int .i64 x846.c.stop, .int .i64 x846.c.end_, v847, .int .i64 x846.now, .int .i64 x846.at_, .int .i64 x846.cal] 56 :: obS (α := level_Piece) 67 v847 x846.c.pieces :: obSM (κ := Int) (α := Bool) pb427 s627 :: obPX (ob_portref2_ticking) 54 v678 s784 (Int.toNat (k778 : Int)) b809 :: obC b29 [v678] 52 :: L) := hH851
            obtain rfl := Option.some.inj ho822
            refine V_end (fun a ha853 => ?_)
            exact ⟨(v847, A850), ha853.sub ⟨rfl, rfl, rfl, rfl, rfl, rfl, rfl, rfl, rfl, rfl, rfl, rfl, trivial⟩, ⟨hH, hr824⟩⟩
          rintro ⟨v825, A830⟩ w827 ⟨hH831, hk828⟩ a ha829
          replace hr799 := Tr.trans (Dw := False) hr799 hk828
          replace hA := hk828.new
          replace hH : Hp B A830 w827 (obC b809 [.int .i64 s823.c.kind, .int .i64 s823.c.level, .int .i64 s823.c.minutes, .int .i64 s823.c.start, .int .i64 s823.c.stop, .int .i64 s823.c.end_, v825, .int .i64 s823.now, .int .i64 s823.at_, .int .i64 s823.cal] 56 :: obS (α := level_Piece) 67 v825 s823.c.pieces :: obSM (κ := Int) (α := Bool) pb427 s627 :: obPX (ob_portref2_ticking) 54 v678 s784 (Int.toNat (k778 : Int)) b809 :: obC b29 [v678] 52 :: L) := hH831
          obtain rfl := Option.some.inj ho797
          replace hH : Hp B A830 w827 (obS (α := level_Piece) 67 v825 s823.c.pieces :: obC b809 [.int .i64 s823.c.kind, .int .i64 s823.c.level, .int .i64 s823.c.minutes, .int .i64 s823.c.start, .int .i64 s823.c.stop, .int .i64 s823.c.end_, v825, .int .i64 s823.now, .int .i64 s823.at_, .int .i64 s823.cal] 56 :: obSM (κ := Int) (α := Bool) pb427 s627 :: obPX (ob_portref2_ticking) 54 v678 s784 (Int.toNat (k778 : Int)) b809 :: obC b29 [v678] 52 :: L) := Hp.front hH (i := 1) rfl
          replace hH : Hp B A830 w827 (obC b809 [.int .i64 s823.c.kind, .int .i64 s823.c.level, .int .i64 s823.c.minutes, .int .i64 s823.c.start, .int .i64 s823.c.stop, .int .i64 s823.c.end_, v825, .int .i64 s823.now, .int .i64 s823.at_, .int .i64 s823.cal] 56 :: obS (α := level_Piece) 67 v825 s823.c.pieces :: obSM (κ := Int) (α := Bool) pb427 s627 :: obPX (ob_portref2_ticking) 54 v678 s784 (Int.toNat (k778 : Int)) b809 :: obC b29 [v678] 52 :: L) := Hp.front hH (i := 1) rfl
          replace hH : Hp B A830 w827 (ob_portref2_ticking b809 s823 :: obSM (κ := Int) (α := Bool) pb427 s627 :: obPX (ob_portref2_ticking) 54 v678 s784 (Int.toNat (k778 : Int)) b809 :: obC b29 [v678] 52 :: L) := Hp.pack (F := obF_portref2_ticking b809 s823) v825 hH
          replace hH : Hp B A830 w827 (obSM (κ := Int) (α := Bool) pb427 s627 :: obPS (ob_portref2_ticking) 54 v678 (List.set s784 (Int.toNat (k778 : Int)) s823) :: obC b29 [v678] 52 :: L) := Hp.psClose hH (i := 1) rfl hk810
          exact ⟨A830, ha829.sub ⟨rfl, rfl, rfl, rfl, rfl, rfl, rfl, rfl, rfl, rfl, rfl, rfl, trivial⟩, ⟨hH, hr799⟩⟩
        rintro A803 w800 ⟨hH804, hk801⟩ a ha802
        replace hr777 := Tr.trans (Dw := False) hr777 hk801
        replace hA := hk801.new
        replace hH : Hp B A803 w800 (obSM (κ := Int) (α := Bool) pb427 s627 :: obPS (ob_portref2_ticking) 54 v678 s798 :: obC b29 [v678] 52 :: L) := hH804
        refine C_at (n := ⟨351, [], none⟩) (fun _ _ => rfl) ?_ ha802
        refine C_region ?_
        refine V_y (Y_addI rfl rfl) rfl rfl rfl ?_
        refine V_y (Y_move rfl) rfl rfl rfl ?_
        obtain rfl := Option.some.inj h789
        refine V_end (fun a ha855 => ?_)
        exact ⟨s798, hlt792, h790, ⟨A803, ha855.sub ⟨rfl, rfl, rfl, rfl, rfl, rfl, rfl, rfl, rfl, rfl, rfl, (congrArg (fun z => some (Value.int .i64 z)) (w64_succ hlt792 hn795)), trivial⟩, ⟨hH, hr777⟩⟩⟩
       ·refine C_exit (fun a ha856 => ?_)
        exact ⟨(s784, A786), ha856.sub ⟨rfl, rfl, rfl, rfl, rfl, rfl, rfl, rfl, trivial⟩, ⟨(h793 (eq_of_dec hle791 hc796)).symm, hH, hr777⟩⟩
      rintro ⟨s776, A782⟩ w779 ⟨rfl, hH783, hk780⟩ a ha781
      rw [Lp.andThen_fin] at ho60
      replace hr62 := Tr.trans (Dw := False) hr62 hk780
      replace hA := hk780.new
      replace hH : Hp B A782 w779 (obSM (κ := Int) (α := Bool) pb427 s627 :: obPS (ob_portref2_ticking) 54 v678 s776 :: obC b29 [v678] 52 :: L) := hH783
      obtain rfl := Option.some.inj ho60
      replace hH : Hp B A782 w779 (obC b29 [v678] 52 :: obSM (κ := Int) (α := Bool) pb427 s627 :: obPS (ob_portref2_ticking) 54 v678 s776 :: L) := Hp.front hH (i := 2) rfl
      replace hH : Hp B A782 w779 (obPS (ob_portref2_ticking) 54 v678 s776 :: obC b29 [v678] 52 :: obSM (κ := Int) (α := Bool) pb427 s627 :: L) := Hp.front hH (i := 2) rfl
      replace hH : Hp B A782 w779 (obPS (ob_portref2_ticking) 54 v678 s776 :: obC b29 [v678] 52 :: L) := Hp.drop hH (i := 2) rfl
      exact ⟨(v678, A782), ha781.sub ⟨rfl, rfl, rfl, rfl, rfl, rfl, rfl, rfl, trivial⟩, ⟨hH, hr62⟩⟩
     rintro ⟨v63, A68⟩ w65 ⟨hH69, hk66⟩ a ha67
     replace hr36 := Tr.trans (Dw := False) hr36 hk66
     replace hA := hk66.new
     replace hH : Hp B A68 w65 (obPS (ob_portref2_ticking) 54 v63 s61.2 :: obC b29 [v63] 52 :: L) := hH69
     refine C_at (n := ⟨351, [], none⟩) (fun _ _ => rfl) ?_ ha67
     refine C_region ?_
     refine V_y (Y_addI rfl rfl) rfl rfl rfl ?_
     refine V_y (Y_move rfl) rfl rfl rfl ?_
     obtain rfl := Option.some.inj h52
     refine V_end (fun a ha859 => ?_)
     exact ⟨(s61.1, s61.2), hlt55, h53, ⟨(v63, A68), ha859.sub ⟨rfl, rfl, rfl, rfl, rfl, rfl, rfl, (congrArg (fun z => some (Value.int .i64 z)) (w64_succ hlt55 hn58)), trivial⟩, ⟨hH, hr36⟩⟩⟩
    ·refine C_exit (fun a ha860 => ?_)
     exact ⟨((s45.1, s45.2), v47, A49), ha860.sub ⟨rfl, trivial⟩, ⟨(h56 (eq_of_dec hle54 hc59)).symm, hH, hr36⟩⟩
   rintro ⟨s35, v41, A43⟩ w38 ⟨rfl, hH44, hk39⟩ a ha40
   rw [Lp.andThen_fin] at hm
   replace hK := Tr.trans (Dw := False) hK hk39
   replace hB := Nat.le_trans hB hk39.ex.size
   replace hA := hk39.new
   replace hH : Hp B A43 w38 (obPS (ob_portref2_ticking) 54 v41 s35.2 :: obC b29 [v41] 52 :: L) := hH44
   refine C_at (n := ⟨351, [], none⟩) (fun _ _ => rfl) ?_ ha40
   refine C_seq ?_
   refine C_region ?_
   refine V_y (Y_assign rfl) rfl rfl rfl ?_
   refine V_to (fun _ _ => rfl) ?_
   refine C_seq ?_
   refine C_seq ?_
   refine C_region ?_
   refine V_y (Y_load (Hp.cell (j := 0) hH (i := 1) rfl rfl) Tryz.isAgg52 rfl) rfl rfl rfl ?_
   refine V_y (Y_lenPS (Hp.psForm (f := ob_portref2_ticking) (e := 54) (v := v41) (cs := s35.2) hH (i := 0) rfl) rfl Tryz.underlying52 rfl) rfl rfl rfl ?_
   refine V_y (Y_move rfl) rfl rfl rfl ?_
   refine V_to (fun _ _ => rfl) ?_
   replace hH : Hp B A43 w38 (obPD (ob_portref2_ticking) 54 v41 s35.2 0 :: obC b29 [v41] 52 :: L) := Hp.toPD hH (i := 0) rfl
   replace hH : Hp B A43 w38 (obS (α := level_Clock) 47 (.slice none 0 0) ([] : (List level_Clock)) :: obPD (ob_portref2_ticking) 54 v41 s35.2 0 :: obC b29 [v41] 52 :: L) := Hp.addNil (α := level_Clock) (e := 47) hH
   have hn886 := Hp.pdLe (f := ob_portref2_ticking) (e := 54) (v := v41) (cs := s35.2) (k := 0) hH (i := 1) rfl
   obtain ⟨o862, ho862, hm⟩ := Option.bind_eq_some_iff.1 hm
   refine C_cutG (ι := ((List level_Clock) × Value × (Nat → Prop))) (fun ⟨s863, v869, A871⟩ => [(29, v869)]) (fun ⟨s863, v869, A871⟩ => fun w' => o862 = .fin s863 ∧ Hp B A871 w' (obS (α := level_Clock) 47 v869 s863 :: obC b29 [v41] 52 :: L) ∧ Tr False B A43 w38 A871 w') ?_ ?_
   ·refine C_block ?_
    refine C_range ho862 (fun k865 s873 a w' => ∃ i : (Value × (Nat → Prop)), Has ⟨351, [], none⟩ a ([(29, i.1), (303, v41), (304, .int .i64 (s35.2.length : Int)), (305, .int .i64 (k865 : Int))]) ∧ Hp B i.2 w' (obS (α := level_Clock) 47 i.1 s873 :: obPD (ob_portref2_ticking) 54 v41 s35.2 k865 :: obC b29 [v41] 52 :: L) ∧ Tr False B A43 w38 i.2 w') (fun a ha => ⟨(.slice none 0 0, A43), ha.sub ⟨rfl, rfl, rfl, rfl, trivial⟩, ⟨hH, Tr.refl (Dw := False) hA⟩⟩) ?_
    rintro K k865 s873 a w874 ⟨⟨v875, A877⟩, ha954, hH878, hr864⟩ hle882 K885 h884
    refine C_of ?_ ha954
    replace hB := Nat.le_trans hB hr864.ex.size
    replace hA := hr864.new
    replace hH : Hp B A877 w874 (obS (α := level_Clock) 47 v875 s873 :: obPD (ob_portref2_ticking) 54 v41 s35.2 k865 :: obC b29 [v41] 52 :: L) := hH878
    refine C_seq (C_region (V_y (Y_lss rfl rfl) rfl rfl rfl (V_to (fun _ _ => rfl) ?_)))
    refine C_seq ?_
    refine C_cond rfl (fun hc887 => ?_) (fun hc887 => ?_)
    ·have hlt883 := lt_of_dec hc887
     obtain ⟨x879, h880, h881⟩ := K885 hlt883
     refine C_skip_to (fun _ _ => rfl) ?_
     refine C_seq ?_
     refine C_block ?_
     refine C_seq ?_
     refine C_region ?_
     obtain ⟨x888, hx888, h880⟩ := Option.bind_eq_some_iff.1 h880
     refine V_indexAddrPD (f := ob_portref2_ticking) (e := 54) (v := v41) (cs := s35.2) (ix := k865) hH (i := 1) rfl hx888 Tryz.underlying52 Tryz.sizeOf54 rfl rfl rfl ?_
     intro b889 o890 b892 h891 hH
     obtain ⟨v894, hH896⟩ := Hp.open (F := obF_portref2_ticking b892 x888) hH
     replace hH : Hp B A877 w874 (obC b892 [.int .i64 x888.c.kind, .int .i64 x888.c.level, .int .i64 x888.c.minutes, .int .i64 x888.c.start, .int .i64 x888.c.stop, .int .i64 x888.c.end_, v894, .int .i64 x888.now, .int .i64 x888.at_, .int .i64 x888.cal] 56 :: obS (α := level_Piece) 67 v894 x888.c.pieces :: obS (α := level_Clock) 47 v875 s873 :: obPD (ob_portref2_ticking) 54 v41 s35.2 (k865 + 1) :: obC b29 [v41] 52 :: L) := hH896
     refine V_y (Y_load h891 Tryz.isAgg54 rfl) rfl rfl rfl ?_
     refine V_y (Y_assign rfl) rfl rfl rfl ?_
     refine V_to (fun _ _ => rfl) ?_
     refine C_seq ?_
     refine C_seq ?_
     refine C_region ?_
     refine V_y (Y_move rfl) rfl rfl rfl ?_
     refine V_y (Y_nilCheck rfl) rfl rfl rfl ?_
     refine V_y (Y_fieldAddrC (off2 := 0) Tryz.underlying56 rfl Tryz.sizeOf47 (by decide) rfl rfl) rfl rfl rfl ?_
     refine V_y (Y_fieldAddrC (off2 := 4) Tryz.underlying47 rfl Tryz.sizeOf3 (by decide) rfl rfl) rfl rfl rfl ?_
     refine V_y (Y_load (Hp.cell (j := 4) hH (i := 0) rfl rfl) Tryz.isAgg3 rfl) rfl rfl rfl ?_
     refine V_y (Y_lss rfl rfl) rfl rfl rfl ?_
     refine V_y (Y_move rfl) rfl rfl rfl ?_
     refine V_cut 6 (fun _ : Unit => [(29, v875), (31, .pointer (some ⟨b892, 0, none⟩)), (303, v41), (304, .int .i64 (s35.2.length : Int)), (305, .int .i64 (k865 : Int)), (321, .bool ((decide (x888.c.stop < 0)) && (decide ((0 : Int) ≤ x888.now))))]) (fun _ w' => w874 = w') ?_ ?_
     ·simp only [List.take, List.drop]
      rcases Bool.eq_false_or_eq_true (decide (x888.c.stop < 0)) with hc897 | hc897
      ·refine V_ge rfl rfl rfl hc897 ?_
       refine V_y (Y_move rfl) rfl rfl rfl ?_
       refine V_ge rfl rfl rfl hc897 ?_
       refine V_y (Y_nilCheck rfl) rfl rfl rfl ?_
       refine V_ge rfl rfl rfl hc897 ?_
       refine V_y (Y_fieldAddrC (off2 := 7) Tryz.underlying56 rfl Tryz.sizeOf3 (by decide) rfl rfl) rfl rfl rfl ?_
       refine V_ge rfl rfl rfl hc897 ?_
       refine V_y (Y_load (Hp.cell (j := 7) hH (i := 0) rfl rfl) Tryz.isAgg3 rfl) rfl rfl rfl ?_
       refine V_ge rfl rfl rfl hc897 ?_
       refine V_y (Y_geq rfl rfl) rfl rfl rfl ?_
       refine V_y (Y_pick_te rfl hc897 rfl) rfl rfl rfl ?_
       exact V_end fun a ha => ⟨(), ha.sub ⟨rfl, rfl, rfl, rfl, rfl, (by rw [hc897]; rfl), trivial⟩, rfl⟩
      ·refine V_gn rfl rfl rfl hc897 rfl rfl rfl ?_
       refine V_gn rfl rfl rfl hc897 rfl rfl rfl ?_
       refine V_gn rfl rfl rfl hc897 rfl rfl rfl ?_
       refine V_gn rfl rfl rfl hc897 rfl rfl rfl ?_
       refine V_gn rfl rfl rfl hc897 rfl rfl rfl ?_
       refine V_y (Y_pick_fe rfl hc897 rfl) rfl rfl rfl ?_
       exact V_end fun a ha => ⟨(), ha.sub ⟨rfl, rfl, rfl, rfl, rfl, (by rw [hc897]; rfl), trivial⟩, rfl⟩
     simp only [List.take, List.drop]
     rintro _ _ rfl
     refine V_to (fun _ _ => rfl) ?_
     obtain ⟨s900, ho899, h880⟩ := Option.bind_eq_some_iff.1 h880
     refine C_cutG (ι := (Value × (Nat → Prop))) (fun ⟨v902, A907⟩ => [(29, v875), (31, .pointer (some ⟨b892, 0, none⟩)), (303, v41), (304, .int .i64 (s35.2.length : Int)), (305, .int .i64 (k865 : Int))]) (fun ⟨v902, A907⟩ => fun w' => Hp B A907 w' (obC b892 [.int .i64 s900.c.kind, .int .i64 s900.c.level, .int .i64 s900.c.minutes, .int .i64 s900.c.start, .int .i64 s900.c.stop, .int .i64 s900.c.end_, v902, .int .i64 s900.now, .int .i64 s900.at_, .int .i64 s900.cal] 56 :: obS (α := level_Piece) 67 v902 s900.c.pieces :: obS (α := level_Clock) 47 v875 s873 :: obPD (ob_portref2_ticking) 54 v41 s35.2 (k865 + 1) :: obC b29 [v41] 52 :: L) ∧ Tr False B A877 w874 A907 w') ?_ ?_
     ·have hr901 : Tr False B A877 w874 A877 w874 := Tr.refl (Dw := False) hA
      refine C_cond rfl (fun hc909 => ?_) (fun hc909 => ?_)
      ·rw [if_pos hc909] at ho899
       refine C_region_ch (Dw := False) A877 21 [(1, 0), (1, 1), (1, 2), (1, 3), (1, 4), (0, 5), (1, 6), (1, 7), (1, 8), (0, 9), (1, 10), (1, 11), (1, 12), (0, 13), (1, 14), (2, 15), (4, 16), (1, 17), (1, 18), (1, 19), (4, 20)] Tryz_mixed (by kernel_rfl) (fun w910 hk911 => ?_)
       have ht912 := Kp.tr (Dw := False) hk911 hA hB
       replace hH := Hp.kp (Dw := False) hH hk911
       replace hr901 := Tr.trans (Dw := False) hr901 ht912
       replace hB := Nat.le_trans hB ht912.ex.size
       replace hA := ht912.new
       refine CH_q2 (Dw := False) rfl ?_
       refine VQ_y (fun w' hw' => Y_move rfl) rfl rfl rfl ?_
       refine VQ_CH (Dw := False) ?_
       refine CH_q2 (Dw := False) rfl ?_
       refine VQ_y (fun w' hw' => Y_move rfl) rfl rfl rfl ?_
       refine VQ_CH (Dw := False) ?_
       refine CH_q2 (Dw := False) rfl ?_
       refine VQ_y (fun w' hw' => Y_nilCheck rfl) rfl rfl rfl ?_
       refine VQ_CH (Dw := False) ?_
       refine CH_q2 (Dw := False) rfl ?_
       refine VQ_y (fun w' hw' => Y_fieldAddrC (off2 := 0) Tryz.underlying56 rfl Tryz.sizeOf47 (by decide) rfl rfl) rfl rfl rfl ?_
       refine VQ_CH (Dw := False) ?_
       refine CH_q2 (Dw := False) rfl ?_
       refine VQ_y (fun w' hw' => Y_fieldAddrC (off2 := 6) Tryz.underlying47 rfl Tryz.sizeOf45 (by decide) rfl rfl) rfl rfl rfl ?_
       refine VQ_CH (Dw := False) ?_
       refine CH_q1 (Dw := False) rfl ?_
       refine VQ_y (fun w' hw' => Y_load ((World.cell?_of_block (hw'.block _ (World.block_lt_of_cell? _ _ (Hp.cell (j := 6) hH (i := 0) rfl rfl)))).trans (Hp.cell (j := 6) hH (i := 0) rfl rfl)) Tryz.isAgg45 rfl) rfl rfl rfl ?_
       refine VQ_CH (Dw := False) ?_
       refine CH_q2 (Dw := False) rfl ?_
       refine VQ_y (fun w' hw' => Y_move rfl) rfl rfl rfl ?_
       refine VQ_CH (Dw := False) ?_
       refine CH_q2 (Dw := False) rfl ?_
       refine VQ_y (fun w' hw' => Y_nilCheck rfl) rfl rfl rfl ?_
       refine VQ_CH (Dw := False) ?_
       refine CH_q2 (Dw := False) rfl ?_
       refine VQ_y (fun w' hw' => Y_fieldAddrC (off2 := 8) Tryz.underlying56 rfl Tryz.sizeOf3 (by decide) rfl rfl) rfl rfl rfl ?_
       refine VQ_CH (Dw := False) ?_
       refine CH_q1 (Dw := False) rfl ?_
       refine VQ_y (fun w' hw' => Y_load ((World.cell?_of_block (hw'.block _ (World.block_lt_of_cell? _ _ (Hp.cell (j := 8) hH (i := 0) rfl rfl)))).trans (Hp.cell (j := 8) hH (i := 0) rfl rfl)) Tryz.isAgg3 rfl) rfl rfl rfl ?_
       refine VQ_CH (Dw := False) ?_
       refine CH_q2 (Dw := False) rfl ?_
       refine VQ_y (fun w' hw' => Y_move rfl) rfl rfl rfl ?_
       refine VQ_CH (Dw := False) ?_
       refine CH_q2 (Dw := False) rfl ?_
       refine VQ_y (fun w' hw' => Y_nilCheck rfl) rfl rfl rfl ?_
       refine VQ_CH (Dw := False) ?_
       refine CH_q2 (Dw := False) rfl ?_
       refine VQ_y (fun w' hw' => Y_fieldAddrC (off2 := 7) Tryz.underlying56 rfl Tryz.sizeOf3 (by decide) rfl rfl) rfl rfl rfl ?_
       refine VQ_CH (Dw := False) ?_
       refine CH_q1 (Dw := False) rfl ?_
       refine VQ_y (fun w' hw' => Y_load ((World.cell?_of_block (hw'.block _ (World.block_lt_of_cell? _ _ (Hp.cell (j := 7) hH (i := 0) rfl rfl)))).trans (Hp.cell (j := 7) hH (i := 0) rfl rfl)) Tryz.isAgg3 rfl) rfl rfl rfl ?_
       refine VQ_CH (Dw := False) ?_
       refine CH_q2 (Dw := False) rfl ?_
       refine VQ_y (fun w' hw' => Y_build Tryz.underlying67 Tryz.zeroValue67 (Tryz_places67 _ Tryz.underlying67) rfl (by with_unfolding_all rfl)) rfl rfl rfl ?_
       refine VQ_CH (Dw := False) ?_
       refine CH_l1 (Dw := False) (k := 0) rfl ?_
       refine V_buildSlice (Dw := False) (cells := #[.int .i64 x888.at_, .int .i64 (-1), .int .i64 x888.now]) (l := ([(⟨x888.at_, (-1), x888.now⟩ : level_Piece)] : List level_Piece)) (len := 1) Tryz.underlying45 Tryz.sizeOf67 Tryz.zeroValue67 rfl (by generalize ((-1) : Int) = z917; kernel_rfl) (show (1 * 3 : Nat) ≠ 0 by decide) (show (1 * 3 : Nat) ≤ 2 ^ 24 by decide) hA ⟨[.int .i64 x888.at_, .int .i64 (-1), .int .i64 x888.now], _, rfl, ⟨[.int .i64 x888.at_], _, rfl, rfl, ⟨[.int .i64 (-1)], _, rfl, rfl, rfl⟩⟩, rfl⟩ rfl rfl ?_
       intro v913 w914 hk916 h915
       have ht918 := Kp.tr (Dw := False) hk916 hA hB
       replace hH := Hp.kp (Dw := False) hH hk916
       replace hr901 := Tr.trans (Dw := False) hr901 ht918
       replace hB := Nat.le_trans hB ht918.ex.size
       replace hA := ht918.new
       refine V_CH (Dw := False) (hk916) ?_
       refine CH_l1 (Dw := False) (k := 2) rfl ?_
       obtain ⟨x919, hx919, ho899⟩ := Option.bind_eq_some_iff.1 ho899
       refine V_appendH (Dw := False) (e := 67) (v := v894) (l := x888.c.pieces) (ti := Tryz.t67) (bytes := 24) (lim := 5864062014805) hH (i := 1) rfl h915 hx919 Tryz.underlying45 Tryz_info67 rfl rfl rfl rfl (by decide) (by decide) (by decide) hB hA rfl rfl rfl ?_
       intro v920 w921 A922 hH923 ht924
       replace hr901 := Tr.trans (Dw := False) hr901 ht924
       replace hB := Nat.le_trans hB ht924.ex.size
       replace hA := ht924.new
       replace hH : Hp B A922 w921 (obC b892 [.int .i64 x888.c.kind, .int .i64 x888.c.level, .int .i64 x888.c.minutes, .int .i64 x888.c.start, .int .i64 x888.c.stop, .int .i64 x888.c.end_, v894, .int .i64 x888.now, .int .i64 x888.at_, .int .i64 x888.cal] 56 :: obS (α := level_Piece) 67 v920 x919 :: obS (α := level_Clock) 47 v875 s873 :: obPD (ob_portref2_ticking) 54 v41 s35.2 (k865 + 1) :: obC b29 [v41] 52 :: L) := hH923
       refine V_CHw (Dw := False) ?_
       refine CH_q2 (Dw := False) rfl ?_
       refine VQ_y (fun w' hw' => Y_nilCheck rfl) rfl rfl rfl ?_
       refine VQ_CH (Dw := False) ?_
       refine CH_q2 (Dw := False) rfl ?_
       refine VQ_y (fun w' hw' => Y_fieldAddrC (off2 := 0) Tryz.underlying56 rfl Tryz.sizeOf47 (by decide) rfl rfl) rfl rfl rfl ?_
       refine VQ_CH (Dw := False) ?_
       refine CH_q2 (Dw := False) rfl ?_
       refine VQ_y (fun w' hw' => Y_fieldAddrC (off2 := 6) Tryz.underlying47 rfl Tryz.sizeOf45 (by decide) rfl rfl) rfl rfl rfl ?_
       refine VQ_CH (Dw := False) ?_
       refine CH_l1 (Dw := False) (k := 2) rfl ?_
       have h930 : (v920).oneCell' = true := by obtain ⟨_, _, e, _⟩ := Sl.form (Hp.any (α := level_Piece) (e := 67) (v := v920) (l := x919) hH (i := 1) rfl); rw [e]; rfl
       refine V_storeC (Dw := False) (off := 6) (ds := [.int .i64 x888.c.kind, .int .i64 x888.c.level, .int .i64 x888.c.minutes, .int .i64 x888.c.start, .int .i64 x888.c.stop, .int .i64 x888.c.end_, v920, .int .i64 x888.now, .int .i64 x888.at_, .int .i64 x888.cal]) hH (i := 0) rfl Tryz.sizeOf45 (by rw [← Array.length_toList, Value.cells_one h930]; rfl) (Nat.le_of_ble_eq_true rfl) (by intro u hu; rw [Value.cells_one h930] at hu; simp at hu; subst hu; assumption) (by rw [Value.cells_one h930]; rfl) hB hA rfl rfl ?_
       intro w925 hH926 ht927
       replace hr901 := Tr.trans (Dw := False) hr901 ht927
       replace hH : Hp B A922 w925 (obC b892 [.int .i64 x888.c.kind, .int .i64 x888.c.level, .int .i64 x888.c.minutes, .int .i64 x888.c.start, .int .i64 x888.c.stop, .int .i64 x888.c.end_, v920, .int .i64 x888.now, .int .i64 x888.at_, .int .i64 x888.cal] 56 :: obS (α := level_Piece) 67 v920 x919 :: obS (α := level_Clock) 47 v875 s873 :: obPD (ob_portref2_ticking) 54 v41 s35.2 (k865 + 1) :: obC b29 [v41] 52 :: L) := hH926
       refine V_CHw (Dw := False) ?_
       refine CH_tail (Dw := False) ?_
       show V _ _ _ _ [] _ _
       obtain rfl := Option.some.inj ho899
       refine V_end (fun a ha931 => ?_)
       exact ⟨(v920, A922), ha931.sub ⟨rfl, rfl, rfl, rfl, rfl, trivial⟩, ⟨hH, hr901⟩⟩
      ·rw [if_neg (nt hc909)] at ho899
       obtain rfl := Option.some.inj ho899
       refine C_skip (fun a ha932 => ?_)
       exact ⟨(v894, A877), ha932.sub ⟨rfl, rfl, rfl, rfl, rfl, trivial⟩, ⟨hH, hr901⟩⟩
     rintro ⟨v902, A907⟩ w904 ⟨hH908, hk905⟩ a ha906
     replace hr864 := Tr.trans (Dw := False) hr864 hk905
     replace hB := Nat.le_trans hB hk905.ex.size
     replace hA := hk905.new
     replace hH : Hp B A907 w904 (obC b892 [.int .i64 s900.c.kind, .int .i64 s900.c.level, .int .i64 s900.c.minutes, .int .i64 s900.c.start, .int .i64 s900.c.stop, .int .i64 s900.c.end_, v902, .int .i64 s900.now, .int .i64 s900.at_, .int .i64 s900.cal] 56 :: obS (α := level_Piece) 67 v902 s900.c.pieces :: obS (α := level_Clock) 47 v875 s873 :: obPD (ob_portref2_ticking) 54 v41 s35.2 (k865 + 1) :: obC b29 [v41] 52 :: L) := hH908
     refine C_at (n := ⟨351, [], none⟩) (fun _ _ => rfl) ?_ ha906
     refine C_region ?_
     refine V_y (Y_move rfl) rfl rfl rfl ?_
     refine V_y (Y_move rfl) rfl rfl rfl ?_
     refine V_y (Y_nilCheck rfl) rfl rfl rfl ?_
     refine V_y (Y_fieldAddrC (off2 := 0) Tryz.underlying56 rfl Tryz.sizeOf47 (by decide) rfl rfl) rfl rfl rfl ?_
     refine V_y (Y_loadA (Hp.part (off := 0) (n := 7) (ds := [.int .i64 s900.c.kind, .int .i64 s900.c.level, .int .i64 s900.c.minutes, .int .i64 s900.c.start, .int .i64 s900.c.stop, .int .i64 s900.c.end_, v902]) hH (i := 0) rfl rfl) Tryz.isAgg47 Tryz.sizeOf47 rfl) rfl rfl rfl ?_
     obtain ⟨A933, ht934, h935, hH936⟩ := Hp.freeze (Dw := False) (α := level_Piece) (v := v902) (l := s900.c.pieces) hH (i := 1) rfl hA
     replace hr864 := Tr.trans (Dw := False) hr864 ht934
     replace hB := Nat.le_trans hB ht934.ex.size
     replace hA := ht934.new
     replace hH : Hp B A933 w904 (obC b892 [.int .i64 s900.c.kind, .int .i64 s900.c.level, .int .i64 s900.c.minutes, .int .i64 s900.c.start, .int .i64 s900.c.stop, .int .i64 s900.c.end_, v902, .int .i64 s900.now, .int .i64 s900.at_, .int .i64 s900.cal] 56 :: obS (α := level_Clock) 47 v875 s873 :: obPD (ob_portref2_ticking) 54 v41 s35.2 (k865 + 1) :: obC b29 [v41] 52 :: L) := hH936
     refine V_buildSlice (Dw := False) (cells := #[.int .i64 s900.c.kind, .int .i64 s900.c.level, .int .i64 s900.c.minutes, .int .i64 s900.c.start, .int .i64 s900.c.stop, .int .i64 s900.c.end_, v902]) (l := ([s900.c] : List level_Clock)) (len := 1) Tryz.underlying27 Tryz.sizeOf47 Tryz.zeroValue47 rfl (by obtain ⟨a942, c943, e944, _⟩ := Sl.form h935; subst e944; kernel_rfl) (show (1 * 7 : Nat) ≠ 0 by decide) (show (1 * 7 : Nat) ≤ 2 ^ 24 by decide) hA ⟨[.int .i64 s900.c.kind, .int .i64 s900.c.level, .int .i64 s900.c.minutes, .int .i64 s900.c.start, .int .i64 s900.c.stop, .int .i64 s900.c.end_, v902], _, rfl, ⟨[.int .i64 s900.c.kind], _, rfl, rfl, ⟨[.int .i64 s900.c.level], _, rfl, rfl, ⟨[.int .i64 s900.c.minutes], _, rfl, rfl, ⟨[.int .i64 s900.c.start], _, rfl, rfl, ⟨[.int .i64 s900.c.stop], _, rfl, rfl, ⟨[.int .i64 s900.c.end_], _, rfl, rfl, ⟨_, rfl, h935⟩⟩⟩⟩⟩⟩⟩, rfl⟩ rfl rfl ?_
     intro v938 w939 hk941 h940
     have ht945 := Kp.tr (Dw := False) hk941 hA hB
     replace hH := Hp.kp (Dw := False) hH hk941
     replace hr864 := Tr.trans (Dw := False) hr864 ht945
     replace hB := Nat.le_trans hB ht945.ex.size
     replace hA := ht945.new
     obtain ⟨x946, hx946, h880⟩ := Option.bind_eq_some_iff.1 h880
     refine V_appendH (Dw := False) (e := 47) (v := v875) (l := s873) (ti := Tryz.t47) (bytes := 72) (lim := 1954687338268) hH (i := 1) rfl h940 hx946 Tryz.underlying27 Tryz_info47 rfl rfl rfl rfl (by decide) (by decide) (by decide) hB hA rfl rfl rfl ?_
     intro v947 w948 A949 hH950 ht951
     replace hr864 := Tr.trans (Dw := False) hr864 ht951
     replace hH : Hp B A949 w948 (obC b892 [.int .i64 s900.c.kind, .int .i64 s900.c.level, .int .i64 s900.c.minutes, .int .i64 s900.c.start, .int .i64 s900.c.stop, .int .i64 s900.c.end_, v902, .int .i64 s900.now, .int .i64 s900.at_, .int .i64 s900.cal] 56 :: obS (α := level_Clock) 47 v947 x946 :: obPD (ob_portref2_ticking) 54 v41 s35.2 (k865 + 1) :: obC b29 [v41] 52 :: L) := hH950
     refine V_y (Y_assign rfl) rfl rfl rfl ?_
     refine V_to (fun _ _ => rfl) ?_
     refine C_region ?_
     refine V_y (Y_addI rfl rfl) rfl rfl rfl ?_
     refine V_y (Y_move rfl) rfl rfl rfl ?_
     obtain rfl := Option.some.inj h880
     refine V_end (fun a ha952 => ?_)
     replace hH : Hp B A949 w948 (obC b29 [v41] 52 :: obC b892 [.int .i64 s900.c.kind, .int .i64 s900.c.level, .int .i64 s900.c.minutes, .int .i64 s900.c.start, .int .i64 s900.c.stop, .int .i64 s900.c.end_, v902, .int .i64 s900.now, .int .i64 s900.at_, .int .i64 s900.cal] 56 :: obS (α := level_Clock) 47 v947 x946 :: obPD (ob_portref2_ticking) 54 v41 s35.2 (k865 + 1) :: L) := Hp.front hH (i := 3) rfl
     replace hH : Hp B A949 w948 (obPD (ob_portref2_ticking) 54 v41 s35.2 (k865 + 1) :: obC b29 [v41] 52 :: obC b892 [.int .i64 s900.c.kind, .int .i64 s900.c.level, .int .i64 s900.c.minutes, .int .i64 s900.c.start, .int .i64 s900.c.stop, .int .i64 s900.c.end_, v902, .int .i64 s900.now, .int .i64 s900.at_, .int .i64 s900.cal] 56 :: obS (α := level_Clock) 47 v947 x946 :: L) := Hp.front hH (i := 3) rfl
     replace hH : Hp B A949 w948 (obS (α := level_Clock) 47 v947 x946 :: obPD (ob_portref2_ticking) 54 v41 s35.2 (k865 + 1) :: obC b29 [v41] 52 :: obC b892 [.int .i64 s900.c.kind, .int .i64 s900.c.level, .int .i64 s900.c.minutes, .int .i64 s900.c.start, .int .i64 s900.c.stop, .int .i64 s900.c.end_, v902, .int .i64 s900.now, .int .i64 s900.at_, .int .i64 s900.cal] 56 :: L) := Hp.front hH (i := 3) rfl
     replace hH : Hp B A949 w948 (obS (α := level_Clock) 47 v947 x946 :: obPD (ob_portref2_ticking) 54 v41 s35.2 (k865 + 1) :: obC b29 [v41] 52 :: L) := Hp.drop hH (i := 3) rfl
     exact ⟨x946, hlt883, h881, ⟨(v947, A949), ha952.sub ⟨rfl, rfl, rfl, (congrArg (fun z => some (Value.int .i64 z)) (w64_succ hlt883 hn886)), trivial⟩, ⟨hH, hr864⟩⟩⟩
    ·refine C_exit (fun a ha953 => ?_)
     replace hH : Hp B A877 w874 (obC b29 [v41] 52 :: obS (α := level_Clock) 47 v875 s873 :: obPD (ob_portref2_ticking) 54 v41 s35.2 k865 :: L) := Hp.front hH (i := 2) rfl
     replace hH : Hp B A877 w874 (obS (α := level_Clock) 47 v875 s873 :: obC b29 [v41] 52 :: obPD (ob_portref2_ticking) 54 v41 s35.2 k865 :: L) := Hp.front hH (i := 1) rfl
     replace hH : Hp B A877 w874 (obS (α := level_Clock) 47 v875 s873 :: obC b29 [v41] 52 :: L) := Hp.drop hH (i := 2) rfl
     exact ⟨(s873, v875, A877), ha953.sub ⟨rfl, trivial⟩, ⟨(h884 (eq_of_dec hle882 hc887)).symm, hH, hr864⟩⟩
   rintro ⟨s863, v869, A871⟩ w866 ⟨rfl, hH872, hk867⟩ a ha868
   rw [Lp.andThen_fin] at hm
   replace hK := Tr.trans (Dw := False) hK hk867
   replace hA := hk867.new
   replace hH : Hp B A871 w866 (obS (α := level_Clock) 47 v869 s863 :: obC b29 [v41] 52 :: L) := hH872
   refine C_at (n := ⟨351, [], none⟩) (fun _ _ => rfl) ?_ ha868
   refine C_seq ?_
   refine C_region ?_
   refine V_y (Y_move rfl) rfl rfl rfl ?_
   refine V_y (Y_assign rfl) rfl rfl rfl ?_
   refine V_y (Y_assign rfl) rfl rfl rfl ?_
   refine V_to (fun _ _ => rfl) ?_
   obtain rfl := Option.some.inj hm
   replace hH : Hp B A871 w866 (obS (α := level_Clock) 47 v869 s863 :: L) := Hp.drop hH (i := 1) rfl
   refine C_ret ?_
   try simp only [↓inBlock_ret, ↓then_ret]
   exact retQ rfl (Res.two Tryz.results5 rfl rfl) ⟨v869, A871, rfl, hH, hK⟩
end Go.Proofs.YtfbiebageicnaaaGreatDoor.W
