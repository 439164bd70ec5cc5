/-
  Written by program (gen.py) from the IR of the dump: each function computes its model.
-/
import Derived.Test.YtpiihecmmdeofaaGreatDoorRouteReadsW1
namespace Go.Proofs.YtpiihecmmdeofaaGreatDoor.W
open Go Go.RowKit Go.Pu Go.Gw Go.Proofs Go.Proofs.YtpiihecmmdeofaaGreatDoor.M
set_option linter.unusedVariables false
set_option linter.unusedSimpArgs false
variable {Dw : Prop}

set_option maxRecDepth 4000 in
set_option maxHeartbeats 4000000 in
theorem portref2_ReadPeopleOf_c (w : World) {A : Nat → Prop} {B : Nat} (hB : B ≤ w.heap.size) (hA : ∀ b, w.heap.size ≤ b → A b) (hT : Fz Tryz_FR A w) (s : ByteArray) {L : List Ob} (hH : Hp B A w (L)) {r : ((List route_Person) × Int × Int)} (hm : portref2_ReadPeopleOf s = some r) : Ret Tryz.prog 5 #[.string s] w fun v w' => ∃ s0, ∃ A1 : Nat → Prop, v = .tuple #[s0, .int .i64 r.2.1, .int .i64 r.2.2] ∧ Hp B A1 w' (obS (α := route_Person) 32 s0 r.1 :: L) ∧ Tr False B A w A1 w' := by
  unfold portref2_ReadPeopleOf at hm
  refine enter Tryz.func5 rfl Tryz.ntmps5 rfl ?_
  have hK : Tr False B A w A w := Tr.refl (Dw := False) hA
  refine C_seq ?_
  refine C_region ?_
  refine V_y (Y_assign rfl) rfl rfl rfl ?_
  refine V_y (Y_assign rfl) rfl rfl rfl ?_
  refine V_y (Y_assign rfl) rfl rfl rfl ?_
  refine V_to (fun _ _ => rfl) ?_
  refine C_seq ?_
  refine C_seq ?_
  refine C_region ?_
  refine V_y (Y_move rfl) rfl rfl rfl ?_
  refine V_y (Y_lenStr rfl Tryz.underlying9 rfl) rfl rfl rfl ?_
  refine V_y (Y_gtr rfl rfl) rfl rfl rfl ?_
  refine V_to (fun _ _ => rfl) ?_
  refine C_cond rfl (fun hc1 => ?_) (fun hc1 => ?_)
  · rw [if_pos hc1] at hm
    refine C_seq ?_
    refine C_region ?_
    refine V_y (Y_assign rfl) rfl rfl rfl ?_
    refine V_y (Y_assign rfl) rfl rfl rfl ?_
    refine V_y (Y_assign rfl) rfl rfl rfl ?_
    refine V_to (fun _ _ => rfl) ?_
    obtain rfl := Option.some.inj hm
    replace hH : Hp B A w (obS (α := route_Person) 32 (.slice none 0 0) ([] : (List route_Person)) :: L) := Hp.addNil (α := route_Person) (e := 32) hH
    refine C_ret ?_
    try simp only [↓inBlock_ret, ↓then_ret]
    exact retQ rfl (Res.three Tryz.results5 rfl rfl rfl) ⟨.slice none 0 0, A, rfl, hH, hK⟩
  · rw [if_neg (nt hc1)] at hm
    refine C_skip_to (fun _ _ => rfl) ?_
    refine C_seq ?_
    refine C_region ?_
    refine V_y (Y_assign rfl) rfl rfl rfl ?_
    refine V_to (fun _ _ => rfl) ?_
    refine C_seq ?_
    refine C_region ?_
    refine V_y (Y_move rfl) rfl rfl rfl ?_
    obtain ⟨x2, hx2, hm⟩ := Option.bind_eq_some_iff.1 hm
    refine V_call Tryz.call10 rfl rfl rfl rfl (strings_SplitAfter_c (Dw := False) w hA (Fz.tr (Dw := False) hT hK) s (⟨#[10]⟩ : ByteArray) hx2) ?_
    rintro v3 w5 ⟨_, rfl, h4, hk6⟩
    have ht7 := Kp.tr (Dw := False) hk6 hA hB
    replace hH := Hp.kp (Dw := False) hH hk6
    replace hK := Tr.trans (Dw := False) hK ht7
    replace hB := Nat.le_trans hB ht7.ex.size
    replace hA := ht7.new
    refine V_y (Y_assign rfl) rfl rfl rfl ?_
    refine V_to (fun _ _ => rfl) ?_
    refine C_seq ?_
    refine C_seq ?_
    refine C_region ?_
    refine V_y (Y_move rfl) rfl rfl rfl ?_
    refine V_y (Y_lenSl h4 rfl Tryz.underlying36 rfl) rfl rfl rfl ?_
    refine V_y (Y_move rfl) rfl rfl rfl ?_
    refine V_to (fun _ _ => rfl) ?_
    replace hH : Hp B A w5 (obS (α := route_Person) 32 (.slice none 0 0) ([] : (List route_Person)) :: L) := Hp.addNil (α := route_Person) (e := 32) hH
    have hn32 := Sl.le h4
    obtain ⟨o8, ho8, hm⟩ := Option.bind_eq_some_iff.1 hm
    refine C_cutG (ι := ((List route_Person) × Value × (Nat → Prop))) (fun ⟨s9, v15, A17⟩ => [(5, v15)]) (fun ⟨s9, v15, A17⟩ => fun w' => o8 = .fin s9 ∧ Hp B A17 w' (obS (α := route_Person) 32 v15 s9 :: L) ∧ Tr False B A w5 A17 w') ?_ ?_
    · refine C_block ?_
      refine C_range ho8 (fun k11 s19 a w' => ∃ i : (Value × (Nat → Prop)), Has ⟨64, [], none⟩ a ([(5, i.1), (6, v3), (19, v3), (20, .int .i64 (x2.length : Int)), (21, .int .i64 (k11 : Int))]) ∧ Hp B i.2 w' (obS (α := route_Person) 32 i.1 s19 :: L) ∧ Tr False B A w5 i.2 w') (fun a ha => ⟨(.slice none 0 0, A), ha.sub ⟨rfl, rfl, rfl, rfl, rfl, trivial⟩, ⟨hH, Tr.refl (Dw := False) hA⟩⟩) ?_
      rintro K k11 s19 a w20 ⟨⟨v21, A23⟩, ha82, hH24, hr10⟩ hle28 K31 h30
      refine C_of ?_ ha82
      replace h4 := Sl.tr (Dw := False) h4 hr10
      replace hK := Tr.trans (Dw := False) hK hr10
      replace hB := Nat.le_trans hB hr10.ex.size
      replace hA := hr10.new
      replace hH : Hp B A23 w20 (obS (α := route_Person) 32 v21 s19 :: L) := hH24
      refine C_seq (C_region (V_y (Y_lss rfl rfl) rfl rfl rfl (V_to (fun _ _ => rfl) ?_)))
      refine C_seq ?_
      refine C_cond rfl (fun hc33 => ?_) (fun hc33 => ?_)
      · have hlt29 := lt_of_dec hc33
        obtain ⟨x25, h26, h27⟩ := K31 hlt29
        refine C_skip_to (fun _ _ => rfl) ?_
        refine C_seq ?_
        refine C_block ?_
        refine C_seq ?_
        refine C_region ?_
        refine V_y (Y_move rfl) rfl rfl rfl ?_
        obtain ⟨x34, hx34, h26⟩ := Option.bind_eq_some_iff.1 h26
        refine V_indexAddr h4 hx34 Tryz.underlying36 Tryz.sizeOf9 rfl rfl rfl ?_
        intro b35 o36 h37
        refine V_y (Y_load (El.str h37) Tryz.isAgg9 rfl) rfl rfl rfl ?_
        refine V_y (Y_assign rfl) rfl rfl rfl ?_
        refine V_y (Y_assign rfl) rfl rfl rfl ?_
        refine V_to (fun _ _ => rfl) ?_
        refine C_seq ?_
        refine C_seq ?_
        refine C_region ?_
        refine V_y (Y_move rfl) rfl rfl rfl ?_
        refine V_y (Y_seql rfl rfl) rfl rfl rfl ?_
        refine V_y (Y_move rfl) rfl rfl rfl ?_
        refine V_cut 6 (fun _ : Unit => [(5, v21), (6, v3), (7, .int .i64 (k11 : Int)), (8, .string x34), (19, v3), (20, .int .i64 (x2.length : Int)), (21, .int .i64 (k11 : Int)), (34, .bool ((strEq x34 (⟨#[]⟩ : ByteArray)) && ((k11 : Int) == (w64 ((x2.length : Int) - 1)))))]) (fun _ w' => w20 = w') ?_ ?_
        · simp only [List.take, List.drop]
          rcases Bool.eq_false_or_eq_true (strEq x34 (⟨#[]⟩ : ByteArray)) with hc38 | hc38
          · refine V_ge rfl rfl rfl hc38 ?_
            refine V_y (Y_move rfl) rfl rfl rfl ?_
            refine V_ge rfl rfl rfl hc38 ?_
            refine V_y (Y_move rfl) rfl rfl rfl ?_
            refine V_ge rfl rfl rfl hc38 ?_
            refine V_y (Y_lenSl h4 rfl Tryz.underlying36 rfl) rfl rfl rfl ?_
            refine V_ge rfl rfl rfl hc38 ?_
            refine V_y (Y_subI rfl rfl) rfl rfl rfl ?_
            refine V_ge rfl rfl rfl hc38 ?_
            refine V_y (Y_eql rfl rfl) rfl rfl rfl ?_
            refine V_y (Y_pick_te rfl hc38 rfl) rfl rfl rfl ?_
            exact V_end fun a ha => ⟨(), ha.sub ⟨rfl, rfl, rfl, rfl, rfl, rfl, rfl, (by rw [hc38]; rfl), trivial⟩, rfl⟩
          · refine V_gn rfl rfl rfl hc38 rfl rfl rfl ?_
            refine V_gn rfl rfl rfl hc38 rfl rfl rfl ?_
            refine V_gn rfl rfl rfl hc38 rfl rfl rfl ?_
            refine V_gn rfl rfl rfl hc38 rfl rfl rfl ?_
            refine V_gn rfl rfl rfl hc38 rfl rfl rfl ?_
            refine V_y (Y_pick_fe rfl hc38 rfl) rfl rfl rfl ?_
            exact V_end fun a ha => ⟨(), ha.sub ⟨rfl, rfl, rfl, rfl, rfl, rfl, rfl, (by rw [hc38]; rfl), trivial⟩, rfl⟩
        simp only [List.take, List.drop]
        rintro _ _ rfl
        refine V_to (fun _ _ => rfl) ?_
        refine C_cond rfl (fun hc40 => ?_) (fun hc40 => ?_)
        · rw [if_pos hc40] at h26
          obtain rfl := Option.some.inj h26
          refine C_exit (fun a ha41 => ?_)
          exact ⟨(s19, v21, A23), ha41.sub ⟨rfl, trivial⟩, ⟨h27.symm, hH, hr10⟩⟩
        · rw [if_neg (nt hc40)] at h26
          refine C_skip_to (fun _ _ => rfl) ?_
          refine C_seq ?_
          refine C_region ?_
          refine V_y (Y_move rfl) rfl rfl rfl ?_
          obtain ⟨x42, hx42, h26⟩ := Option.bind_eq_some_iff.1 h26
          refine V_call Tryz.call11 rfl rfl rfl rfl (strings_CutSuffix_c w20 x34 (⟨#[10]⟩ : ByteArray) hx42) ?_
          rintro _ _ ⟨rfl, rfl⟩
          refine V_y (Y_move rfl) rfl rfl rfl ?_
          refine V_y (Y_extract rfl rfl) rfl rfl rfl ?_
          refine V_y (Y_extract rfl rfl) rfl rfl rfl ?_
          refine V_y (Y_assign rfl) rfl rfl rfl ?_
          refine V_y (Y_assign rfl) rfl rfl rfl ?_
          refine V_to (fun _ _ => rfl) ?_
          refine C_seq ?_
          refine C_region ?_
          refine V_y (Y_move rfl) rfl rfl rfl ?_
          obtain ⟨x43, hx43, h26⟩ := Option.bind_eq_some_iff.1 h26
          refine V_call Tryz.call12 rfl rfl rfl rfl (portref2_readPerson_c w20 hA (Fz.tr (Dw := False) hT hK) x42.1 hx43) ?_
          rintro _ w46 ⟨v44, rfl, h45, hk47⟩
          have ht48 := Kp.tr (Dw := False) hk47 hA hB
          replace hH := Hp.kp (Dw := False) hH hk47
          replace h4 := Sl.tr (Dw := False) h4 ht48
          replace hK := Tr.trans (Dw := False) hK ht48
          replace hr10 := Tr.trans (Dw := False) hr10 ht48
          replace hB := Nat.le_trans hB ht48.ex.size
          replace hA := ht48.new
          refine V_y (Y_move rfl) rfl rfl rfl ?_
          refine V_y (Y_extract rfl rfl) rfl rfl rfl ?_
          refine V_y (Y_extract rfl rfl) rfl rfl rfl ?_
          refine V_alloc Tryz.zeroValue32 rfl ?_
          intro b49 w50 h51
          have h56 : (v44).oneCell' = true := by obtain ⟨_, _, e, _⟩ := Sl.form h45; rw [e]; rfl
          refine V_storeNew h51 Tryz.sizeOf32 rfl rfl rfl rfl (by exact (List.forall_mem_cons.2 ⟨rfl, (List.forall_mem_cons.2 ⟨rfl, (List.forall_mem_cons.2 ⟨rfl, (List.forall_mem_cons.2 ⟨h56, (fun _ h => nomatch h)⟩)⟩)⟩)⟩)) ?_
          intro w52 h53
          have hk58 := h53.kp (Dw := False)
          have h57 : El (α := route_Person) A23 w52 b49 0 x43.1 := h53.el hA ⟨[.int .i64 x43.1.no], _, rfl, rfl, ⟨[.int .i64 x43.1.capacity], _, rfl, rfl, ⟨[.int .i64 x43.1.calendar], _, rfl, rfl, ⟨_, rfl, h45⟩⟩⟩⟩
          have ht59 := Kp.tr (Dw := False) hk58 hA hB
          replace hH := Hp.kp (Dw := False) hH hk58
          replace h4 := Sl.tr (Dw := False) h4 ht59
          replace h45 := Sl.tr (Dw := False) h45 ht59
          replace hK := Tr.trans (Dw := False) hK ht59
          replace hr10 := Tr.trans (Dw := False) hr10 ht59
          replace hB := Nat.le_trans hB ht59.ex.size
          replace hA := ht59.new
          refine V_y (Y_assign rfl) rfl rfl rfl ?_
          refine V_to (fun _ _ => rfl) ?_
          refine C_seq ?_
          refine C_seq ?_
          refine C_region ?_
          refine V_y (Y_move rfl) rfl rfl rfl ?_
          refine V_y (Y_not rfl) rfl rfl rfl ?_
          refine V_y (Y_move rfl) rfl rfl rfl ?_
          refine V_cut 3 (fun _ : Unit => [(5, v21), (6, v3), (7, .int .i64 (k11 : Int)), (11, .pointer (some ⟨b49, 0, none⟩)), (19, v3), (20, .int .i64 (x2.length : Int)), (21, .int .i64 (k11 : Int)), (50, .bool ((!x42.2) || (!x43.2)))]) (fun _ w' => w52 = w') ?_ ?_
          · simp only [List.take, List.drop]
            rcases Bool.eq_false_or_eq_true (!x42.2) with hc60 | hc60
            · refine V_gn rfl rfl rfl hc60 rfl rfl rfl ?_
              refine V_gn rfl rfl rfl hc60 rfl rfl rfl ?_
              refine V_y (Y_pick_te rfl hc60 rfl) rfl rfl rfl ?_
              exact V_end fun a ha => ⟨(), ha.sub ⟨rfl, rfl, rfl, rfl, rfl, rfl, rfl, (by rw [hc60]; rfl), trivial⟩, rfl⟩
            · refine V_ge rfl rfl rfl hc60 ?_
              refine V_y (Y_move rfl) rfl rfl rfl ?_
              refine V_ge rfl rfl rfl hc60 ?_
              refine V_y (Y_not rfl) rfl rfl rfl ?_
              refine V_y (Y_pick_fe rfl hc60 rfl) rfl rfl rfl ?_
              exact V_end fun a ha => ⟨(), ha.sub ⟨rfl, rfl, rfl, rfl, rfl, rfl, rfl, (by rw [hc60]; rfl), trivial⟩, rfl⟩
          simp only [List.take, List.drop]
          rintro _ _ rfl
          refine V_to (fun _ _ => rfl) ?_
          refine C_cond rfl (fun hc62 => ?_) (fun hc62 => ?_)
          · rw [if_pos hc62] at h26
            refine C_seq ?_
            refine C_region ?_
            refine V_y (Y_move rfl) rfl rfl rfl ?_
            refine V_y (Y_addI rfl rfl) rfl rfl rfl ?_
            refine V_y (Y_assign rfl) rfl rfl rfl ?_
            refine V_y (Y_assign rfl) rfl rfl rfl ?_
            refine V_y (Y_assign rfl) rfl rfl rfl ?_
            refine V_to (fun _ _ => rfl) ?_
            obtain rfl := Option.some.inj h26
            obtain rfl := (h27 : Lp.rt _ = _)
            rw [Lp.andThen_rt] at hm
            obtain rfl := Option.some.inj hm
            replace hH : Hp B A23 w52 (obS (α := route_Person) 32 (.slice none 0 0) ([] : (List route_Person)) :: obS (α := route_Person) 32 v21 s19 :: L) := Hp.addNil (α := route_Person) (e := 32) hH
            replace hH : Hp B A23 w52 (obS (α := route_Person) 32 (.slice none 0 0) ([] : (List route_Person)) :: L) := Hp.drop hH (i := 1) rfl
            refine C_ret ?_
            try simp only [↓inBlock_ret, ↓then_ret]
            exact retQ rfl (Res.three Tryz.results5 rfl rfl rfl) ⟨.slice none 0 0, A23, rfl, hH, hK⟩
          · rw [if_neg (nt hc62)] at h26
            refine C_skip_to (fun _ _ => rfl) ?_
            refine C_region ?_
            refine V_y (Y_move rfl) rfl rfl rfl ?_
            obtain ⟨v63, h65, h64⟩ := El_route_Person h57
            refine V_y (Y_loadA h65 Tryz.isAgg32 Tryz.sizeOf32 rfl) rfl rfl rfl ?_
            refine V_buildSlice (Dw := False) (cells := #[.int .i64 x43.1.no, .int .i64 x43.1.capacity, .int .i64 x43.1.calendar, v63]) (l := ([x43.1] : List route_Person)) (len := 1) Tryz.underlying22 Tryz.sizeOf32 Tryz.zeroValue32 rfl (by obtain ⟨a70, c71, e72, _⟩ := Sl.form h64; subst e72; kernel_rfl) (show (1 * 4 : Nat) ≠ 0 by decide) (show (1 * 4 : Nat) ≤ 2 ^ 24 by decide) hA ⟨[.int .i64 x43.1.no, .int .i64 x43.1.capacity, .int .i64 x43.1.calendar, v63], _, rfl, ⟨[.int .i64 x43.1.no], _, rfl, rfl, ⟨[.int .i64 x43.1.capacity], _, rfl, rfl, ⟨[.int .i64 x43.1.calendar], _, rfl, rfl, ⟨_, rfl, h64⟩⟩⟩⟩, rfl⟩ rfl rfl ?_
            intro v66 w67 hk69 h68
            have ht73 := Kp.tr (Dw := False) hk69 hA hB
            replace hH := Hp.kp (Dw := False) hH hk69
            replace h4 := Sl.tr (Dw := False) h4 ht73
            replace h57 := El.tr (Dw := False) h57 ht73
            replace h64 := Sl.tr (Dw := False) h64 ht73
            replace hK := Tr.trans (Dw := False) hK ht73
            replace hr10 := Tr.trans (Dw := False) hr10 ht73
            replace hB := Nat.le_trans hB ht73.ex.size
            replace hA := ht73.new
            obtain ⟨x74, hx74, h26⟩ := Option.bind_eq_some_iff.1 h26
            refine V_appendH (Dw := False) (e := 32) (v := v21) (l := s19) (ti := Tryz.t32) (bytes := 48) (lim := 2932031007402) hH (i := 0) rfl h68 hx74 Tryz.underlying22 Tryz_info32 rfl rfl rfl rfl (by decide) (by decide) (by decide) hB hA rfl rfl rfl ?_
            intro v75 w76 A77 hH78 ht79
            replace h4 := Sl.tr (Dw := False) h4 ht79
            replace h57 := El.tr (Dw := False) h57 ht79
            replace h64 := Sl.tr (Dw := False) h64 ht79
            replace h68 := Sl.tr (Dw := False) h68 ht79
            replace hK := Tr.trans (Dw := False) hK ht79
            replace hr10 := Tr.trans (Dw := False) hr10 ht79
            replace hB := Nat.le_trans hB ht79.ex.size
            replace hA := ht79.new
            replace hH : Hp B A77 w76 (obS (α := route_Person) 32 v75 x74 :: L) := hH78
            refine V_y (Y_assign rfl) rfl rfl rfl ?_
            refine V_to (fun _ _ => rfl) ?_
            refine C_region ?_
            refine V_y (Y_addI rfl rfl) rfl rfl rfl ?_
            refine V_y (Y_move rfl) rfl rfl rfl ?_
            obtain rfl := Option.some.inj h26
            refine V_end (fun a ha80 => ?_)
            exact ⟨x74, hlt29, h27, ⟨(v75, A77), ha80.sub ⟨rfl, rfl, rfl, rfl, (congrArg (fun z => some (Value.int .i64 z)) (w64_succ hlt29 hn32)), trivial⟩, ⟨hH, hr10⟩⟩⟩
      · refine C_exit (fun a ha81 => ?_)
        exact ⟨(s19, v21, A23), ha81.sub ⟨rfl, trivial⟩, ⟨(h30 (eq_of_dec hle28 hc33)).symm, hH, hr10⟩⟩
    rintro ⟨s9, v15, A17⟩ w12 ⟨rfl, hH18, hk13⟩ a ha14
    rw [Lp.andThen_fin] at hm
    replace hK := Tr.trans (Dw := False) hK hk13
    replace hB := Nat.le_trans hB hk13.ex.size
    replace hA := hk13.new
    replace hH : Hp B A17 w12 (obS (α := route_Person) 32 v15 s9 :: L) := hH18
    refine C_at (n := ⟨64, [], none⟩) (fun _ _ => rfl) ?_ ha14
    refine C_seq ?_
    refine C_seq ?_
    refine C_region ?_
    refine V_y (Y_move rfl) rfl rfl rfl ?_
    obtain ⟨x83, hx83, hm⟩ := Option.bind_eq_some_iff.1 hm
    refine V_call Tryz.call13 rfl rfl rfl rfl (portref2_PeopleFault_c w12 (A := fun _ => True) (fun _ _ => trivial) s9 v15 (Hp.any (α := route_Person) (e := 32) (v := v15) (l := s9) hH (i := 0) rfl) hx83) ?_
    rintro _ w84 ⟨rfl, hk85⟩
    have ht86 := Kp.tr (Dw := False) hk85 hA hB
    replace hH := Hp.kp (Dw := False) hH hk85
    replace hK := Tr.trans (Dw := False) hK ht86
    replace hB := Nat.le_trans hB ht86.ex.size
    replace hA := ht86.new
    refine V_y (Y_assign rfl) rfl rfl rfl ?_
    refine V_to (fun _ _ => rfl) ?_
    refine C_seq ?_
    refine C_region ?_
    refine V_y (Y_move rfl) rfl rfl rfl ?_
    refine V_y (Y_neq rfl rfl) rfl rfl rfl ?_
    refine V_to (fun _ _ => rfl) ?_
    refine C_cond rfl (fun hc87 => ?_) (fun hc87 => ?_)
    · rw [if_pos hc87] at hm
      refine C_seq ?_
      refine C_region ?_
      refine V_y (Y_move rfl) rfl rfl rfl ?_
      refine V_y (Y_assign rfl) rfl rfl rfl ?_
      refine V_y (Y_assign rfl) rfl rfl rfl ?_
      refine V_y (Y_assign rfl) rfl rfl rfl ?_
      refine V_to (fun _ _ => rfl) ?_
      obtain rfl := Option.some.inj hm
      replace hH : Hp B A17 w84 (obS (α := route_Person) 32 (.slice none 0 0) ([] : (List route_Person)) :: obS (α := route_Person) 32 v15 s9 :: L) := Hp.addNil (α := route_Person) (e := 32) hH
      replace hH : Hp B A17 w84 (obS (α := route_Person) 32 (.slice none 0 0) ([] : (List route_Person)) :: L) := Hp.drop hH (i := 1) rfl
      refine C_ret ?_
      try simp only [↓inBlock_ret, ↓then_ret]
      exact retQ rfl (Res.three Tryz.results5 rfl rfl rfl) ⟨.slice none 0 0, A17, rfl, hH, hK⟩
    · rw [if_neg (nt hc87)] at hm
      refine C_skip_to (fun _ _ => rfl) ?_
      refine C_seq ?_
      refine C_region ?_
      refine V_y (Y_move rfl) rfl rfl rfl ?_
      refine V_y (Y_assign rfl) rfl rfl rfl ?_
      refine V_y (Y_assign rfl) rfl rfl rfl ?_
      refine V_y (Y_assign rfl) rfl rfl rfl ?_
      refine V_to (fun _ _ => rfl) ?_
      obtain rfl := Option.some.inj hm
      refine C_ret ?_
      try simp only [↓inBlock_ret, ↓then_ret]
      exact retQ rfl (Res.three Tryz.results5 rfl rfl rfl) ⟨v15, A17, rfl, hH, hK⟩

set_option maxRecDepth 4000 in
set_option maxHeartbeats 4000000 in
theorem slices_EqualFunc_Lroute_Person_Lroute_Person_route_Person_route_Person_c (w : World) {A : Nat → Prop} (hA : ∀ b, w.heap.size ≤ b → A b) (s1 : (List route_Person)) (v_s1 : Value) (h_s1 : Sl A w v_s1 s1) (s2 : (List route_Person)) (v_s2 : Value) (h_s2 : Sl A w v_s2 s2) (eq : route_Person → route_Person → Option Bool) (eq_f : FuncId) (eq_a eq_c : Array Value) (eq_call : ∀ (args : Array Value) (w : World), (callFunc eq_f args).run Tryz.prog w = .ok (.enter eq_f args) w) (eq_spec : ∀ (w1 : World) (A1 : Nat → Prop), Tr Dw w.heap.size A w A1 w1 → (∀ b, w1.heap.size ≤ b → A1 b) → ∀ (y0 : route_Person) (v1 : Value) (h2 : Sl A1 w1 v1 y0.skills) (y1 : route_Person) (v3 : Value) (h4 : Sl A1 w1 v3 y1.skills) (r : Bool), eq y0 y1 = some r → Ret Tryz.prog eq_f (eq_a ++ #[.agg #[.int .i64 y0.no, .int .i64 y0.capacity, .int .i64 y0.calendar, v1], .agg #[.int .i64 y1.no, .int .i64 y1.capacity, .int .i64 y1.calendar, v3]] ++ eq_c) w1 fun v w' => v = .bool r ∧ Kp Dw w1 w') {r : Bool} (hm : slices_EqualFunc_Lroute_Person_Lroute_Person_route_Person_route_Person s1 s2 eq = some r) : Ret Tryz.prog 31 #[v_s1, v_s2, .func (.func eq_f) eq_a eq_c] w fun v w' => v = .bool r ∧ Kp Dw w w' := by
  unfold slices_EqualFunc_Lroute_Person_Lroute_Person_route_Person_route_Person at hm
  refine enter Tryz.func31 rfl Tryz.ntmps31 rfl ?_
  have hA0 := hA
  have hB := Nat.le_refl w.heap.size
  have hK : Tr Dw w.heap.size A w A w := Tr.refl (Dw := Dw) hA
  have hH : Hp w.heap.size A w [] := Hp.nil
  refine C_seq ?_
  refine C_region ?_
  refine V_y (Y_assign rfl) rfl rfl rfl ?_
  refine V_to (fun _ _ => rfl) ?_
  refine C_seq ?_
  refine C_seq ?_
  refine C_region ?_
  refine V_y (Y_move rfl) rfl rfl rfl ?_
  refine V_y (Y_lenSl h_s1 rfl Tryz.underlying22 rfl) rfl rfl rfl ?_
  refine V_y (Y_move rfl) rfl rfl rfl ?_
  refine V_y (Y_lenSl h_s2 rfl Tryz.underlying22 rfl) rfl rfl rfl ?_
  refine V_y (Y_neq rfl rfl) rfl rfl rfl ?_
  refine V_to (fun _ _ => rfl) ?_
  refine C_cond rfl (fun hc5 => ?_) (fun hc5 => ?_)
  · rw [if_pos hc5] at hm
    refine C_seq ?_
    refine C_region ?_
    refine V_y (Y_assign rfl) rfl rfl rfl ?_
    refine V_to (fun _ _ => rfl) ?_
    obtain rfl := Option.some.inj hm
    refine C_ret ?_
    try simp only [↓inBlock_ret, ↓then_ret]
    exact retQ rfl (Res.one Tryz.results31 rfl) ⟨rfl, hK.kp⟩
  · rw [if_neg (nt hc5)] at hm
    refine C_skip_to (fun _ _ => rfl) ?_
    refine C_seq ?_
    refine C_seq ?_
    refine C_region ?_
    refine V_y (Y_move rfl) rfl rfl rfl ?_
    refine V_y (Y_lenSl h_s1 rfl Tryz.underlying22 rfl) rfl rfl rfl ?_
    refine V_y (Y_move rfl) rfl rfl rfl ?_
    refine V_to (fun _ _ => rfl) ?_
    have hn27 := Sl.le h_s1
    obtain ⟨o6, ho6, hm⟩ := Option.bind_eq_some_iff.1 hm
    refine C_cutG (ι := (Unit × (Nat → Prop))) (fun ⟨s7, A13⟩ => []) (fun ⟨s7, A13⟩ => fun w' => o6 = .fin s7 ∧ Hp w.heap.size A13 w' ([]) ∧ Tr Dw w.heap.size A w A13 w') ?_ ?_
    · refine C_block ?_
      refine C_range ho6 (fun k9 _ a w' => ∃ i : (Nat → Prop), Has ⟨32, [], none⟩ a ([(1, v_s2), (2, .func (.func eq_f) eq_a eq_c), (15, v_s1), (16, .int .i64 (s1.length : Int)), (17, .int .i64 (k9 : Int))]) ∧ Hp w.heap.size i w' ([]) ∧ Tr Dw w.heap.size A w i w') (fun a ha => ⟨A, ha.sub ⟨rfl, rfl, rfl, rfl, rfl, trivial⟩, ⟨hH, Tr.refl (Dw := Dw) hA⟩⟩) ?_
      rintro K k9 _ a w17 ⟨A18, ha78, hH19, hr8⟩ hle23 K26 h25
      refine C_of ?_ ha78
      replace h_s2 := Sl.tr (Dw := Dw) h_s2 hr8
      replace h_s1 := Sl.tr (Dw := Dw) h_s1 hr8
      replace hK := Tr.trans (Dw := Dw) hK hr8
      replace hB := Nat.le_trans hB hr8.ex.size
      replace hA := hr8.new
      replace hH : Hp w.heap.size A18 w17 ([]) := hH19
      refine C_seq (C_region (V_y (Y_lss rfl rfl) rfl rfl rfl (V_to (fun _ _ => rfl) ?_)))
      refine C_seq ?_
      refine C_cond rfl (fun hc28 => ?_) (fun hc28 => ?_)
      · have hlt24 := lt_of_dec hc28
        obtain ⟨x20, h21, h22⟩ := K26 hlt24
        refine C_skip_to (fun _ _ => rfl) ?_
        refine C_seq ?_
        refine C_block ?_
        refine C_seq ?_
        refine C_region ?_
        refine V_y (Y_move rfl) rfl rfl rfl ?_
        obtain ⟨x29, hx29, h21⟩ := Option.bind_eq_some_iff.1 h21
        refine V_indexAddr h_s1 hx29 Tryz.underlying22 Tryz.sizeOf32 rfl rfl rfl ?_
        intro b30 o31 h32
        obtain ⟨v33, h35, h34⟩ := El_route_Person h32
        refine V_y (Y_loadA h35 Tryz.isAgg32 Tryz.sizeOf32 rfl) rfl rfl rfl ?_
        refine V_alloc Tryz.zeroValue32 rfl ?_
        intro b36 w37 h38
        refine V_y (Y_assign rfl) rfl rfl rfl ?_
        have h43 : (v33).oneCell' = true := by obtain ⟨_, _, e, _⟩ := Sl.form h34; rw [e]; rfl
        refine V_storeNew h38 Tryz.sizeOf32 rfl rfl rfl rfl (by exact (List.forall_mem_cons.2 ⟨rfl, (List.forall_mem_cons.2 ⟨rfl, (List.forall_mem_cons.2 ⟨rfl, (List.forall_mem_cons.2 ⟨h43, (fun _ h => nomatch h)⟩)⟩)⟩)⟩)) ?_
        intro w39 h40
        have hk45 := h40.kp (Dw := Dw)
        have h44 : El (α := route_Person) A18 w39 b36 0 x29 := h40.el hA ⟨[.int .i64 x29.no], _, rfl, rfl, ⟨[.int .i64 x29.capacity], _, rfl, rfl, ⟨[.int .i64 x29.calendar], _, rfl, rfl, ⟨_, rfl, h34⟩⟩⟩⟩
        have ht46 := Kp.tr (Dw := Dw) hk45 hA hB
        replace hH := Hp.kp (Dw := Dw) hH hk45
        replace h_s2 := Sl.tr (Dw := Dw) h_s2 ht46
        replace h_s1 := Sl.tr (Dw := Dw) h_s1 ht46
        replace h32 := El.tr (Dw := Dw) h32 ht46
        replace h34 := Sl.tr (Dw := Dw) h34 ht46
        replace hK := Tr.trans (Dw := Dw) hK ht46
        replace hr8 := Tr.trans (Dw := Dw) hr8 ht46
        replace hB := Nat.le_trans hB ht46.ex.size
        replace hA := ht46.new
        refine V_to (fun _ _ => rfl) ?_
        refine C_seq ?_
        refine C_region ?_
        refine V_y (Y_move rfl) rfl rfl rfl ?_
        refine V_y (Y_move rfl) rfl rfl rfl ?_
        obtain ⟨x47, hx47, h21⟩ := Option.bind_eq_some_iff.1 h21
        refine V_indexAddr h_s2 hx47 Tryz.underlying22 Tryz.sizeOf32 rfl rfl rfl ?_
        intro b48 o49 h50
        obtain ⟨v51, h53, h52⟩ := El_route_Person h50
        refine V_y (Y_loadA h53 Tryz.isAgg32 Tryz.sizeOf32 rfl) rfl rfl rfl ?_
        refine V_alloc Tryz.zeroValue32 rfl ?_
        intro b54 w55 h56
        have h61 : (v51).oneCell' = true := by obtain ⟨_, _, e, _⟩ := Sl.form h52; rw [e]; rfl
        refine V_storeNew h56 Tryz.sizeOf32 rfl rfl rfl rfl (by exact (List.forall_mem_cons.2 ⟨rfl, (List.forall_mem_cons.2 ⟨rfl, (List.forall_mem_cons.2 ⟨rfl, (List.forall_mem_cons.2 ⟨h61, (fun _ h => nomatch h)⟩)⟩)⟩)⟩)) ?_
        intro w57 h58
        have hk63 := h58.kp (Dw := Dw)
        have h62 : El (α := route_Person) A18 w57 b54 0 x47 := h58.el hA ⟨[.int .i64 x47.no], _, rfl, rfl, ⟨[.int .i64 x47.capacity], _, rfl, rfl, ⟨[.int .i64 x47.calendar], _, rfl, rfl, ⟨_, rfl, h52⟩⟩⟩⟩
        have ht64 := Kp.tr (Dw := Dw) hk63 hA hB
        replace hH := Hp.kp (Dw := Dw) hH hk63
        replace h_s2 := Sl.tr (Dw := Dw) h_s2 ht64
        replace h_s1 := Sl.tr (Dw := Dw) h_s1 ht64
        replace h44 := El.tr (Dw := Dw) h44 ht64
        replace h50 := El.tr (Dw := Dw) h50 ht64
        replace h52 := Sl.tr (Dw := Dw) h52 ht64
        replace hK := Tr.trans (Dw := Dw) hK ht64
        replace hr8 := Tr.trans (Dw := Dw) hr8 ht64
        replace hB := Nat.le_trans hB ht64.ex.size
        replace hA := ht64.new
        refine V_to (fun _ _ => rfl) ?_
        refine C_seq ?_
        refine C_region ?_
        refine V_y (Y_move rfl) rfl rfl rfl ?_
        obtain ⟨v65, h67, h66⟩ := El_route_Person h44
        refine V_y (Y_loadA h67 Tryz.isAgg32 Tryz.sizeOf32 rfl) rfl rfl rfl ?_
        obtain ⟨v68, h70, h69⟩ := El_route_Person h62
        refine V_y (Y_loadA h70 Tryz.isAgg32 Tryz.sizeOf32 rfl) rfl rfl rfl ?_
        obtain ⟨x71, hx71, h21⟩ := Option.bind_eq_some_iff.1 h21
        refine V_call eq_call rfl rfl rfl rfl (eq_spec w57 _ hK hA x29 v65 h66 x47 v68 h69 _ hx71) ?_
        rintro _ w72 ⟨rfl, hk73⟩
        have ht74 := Kp.tr (Dw := Dw) hk73 hA hB
        replace hH := Hp.kp (Dw := Dw) hH hk73
        replace h_s2 := Sl.tr (Dw := Dw) h_s2 ht74
        replace h_s1 := Sl.tr (Dw := Dw) h_s1 ht74
        replace h44 := El.tr (Dw := Dw) h44 ht74
        replace h62 := El.tr (Dw := Dw) h62 ht74
        replace h66 := Sl.tr (Dw := Dw) h66 ht74
        replace h69 := Sl.tr (Dw := Dw) h69 ht74
        replace hK := Tr.trans (Dw := Dw) hK ht74
        replace hr8 := Tr.trans (Dw := Dw) hr8 ht74
        replace hB := Nat.le_trans hB ht74.ex.size
        replace hA := ht74.new
        refine V_y (Y_not rfl) rfl rfl rfl ?_
        refine V_to (fun _ _ => rfl) ?_
        refine C_cond rfl (fun hc75 => ?_) (fun hc75 => ?_)
        · rw [if_pos hc75] at h21
          refine C_seq ?_
          refine C_region ?_
          refine V_y (Y_assign rfl) rfl rfl rfl ?_
          refine V_to (fun _ _ => rfl) ?_
          obtain rfl := Option.some.inj h21
          obtain rfl := (h22 : Lp.rt _ = _)
          rw [Lp.andThen_rt] at hm
          obtain rfl := Option.some.inj hm
          refine C_ret ?_
          try simp only [↓inBlock_ret, ↓then_ret]
          exact retQ rfl (Res.one Tryz.results31 rfl) ⟨rfl, hK.kp⟩
        · rw [if_neg (nt hc75)] at h21
          refine C_skip_to (fun _ _ => rfl) ?_
          refine C_region ?_
          refine V_y (Y_addI rfl rfl) rfl rfl rfl ?_
          refine V_y (Y_move rfl) rfl rfl rfl ?_
          obtain rfl := Option.some.inj h21
          refine V_end (fun a ha76 => ?_)
          exact ⟨(), hlt24, h22, ⟨A18, ha76.sub ⟨rfl, rfl, rfl, rfl, (congrArg (fun z => some (Value.int .i64 z)) (w64_succ hlt24 hn27)), trivial⟩, ⟨hH, hr8⟩⟩⟩
      · refine C_exit (fun a ha77 => ?_)
        exact ⟨((), A18), ha77.sub trivial, ⟨(h25 (eq_of_dec hle23 hc28)).symm, hH, hr8⟩⟩
    rintro ⟨s7, A13⟩ w10 ⟨rfl, hH14, hk11⟩ a ha12
    rw [Lp.andThen_fin] at hm
    replace hK := Tr.trans (Dw := Dw) hK hk11
    replace hB := Nat.le_trans hB hk11.ex.size
    replace hA := hk11.new
    replace hH : Hp w.heap.size A13 w10 ([]) := hH14
    refine C_at (n := ⟨32, [], none⟩) (fun _ _ => rfl) ?_ ha12
    refine C_seq ?_
    refine C_region ?_
    refine V_y (Y_assign rfl) rfl rfl rfl ?_
    refine V_to (fun _ _ => rfl) ?_
    obtain rfl := Option.some.inj hm
    refine C_ret ?_
    try simp only [↓inBlock_ret, ↓then_ret]
    exact retQ rfl (Res.one Tryz.results31 rfl) ⟨rfl, hK.kp⟩

set_option maxRecDepth 4000 in
set_option maxHeartbeats 4000000 in
theorem slices_Equal_Lroute_Skill_route_Skill_c (w : World) {A : Nat → Prop} (hA : ∀ b, w.heap.size ≤ b → A b) (s1 : (List route_Skill)) (v_s1 : Value) (h_s1 : Sl A w v_s1 s1) (s2 : (List route_Skill)) (v_s2 : Value) (h_s2 : Sl A w v_s2 s2) {r : Bool} (hm : slices_Equal_Lroute_Skill_route_Skill s1 s2 = some r) : Ret Tryz.prog 33 #[v_s1, v_s2] w fun v w' => v = .bool r ∧ Kp Dw w w' := by
  unfold slices_Equal_Lroute_Skill_route_Skill at hm
  refine enter Tryz.func33 rfl Tryz.ntmps33 rfl ?_
  have hA0 := hA
  have hB := Nat.le_refl w.heap.size
  have hK : Tr Dw w.heap.size A w A w := Tr.refl (Dw := Dw) hA
  have hH : Hp w.heap.size A w [] := Hp.nil
  refine C_seq ?_
  refine C_region ?_
  refine V_y (Y_assign rfl) rfl rfl rfl ?_
  refine V_to (fun _ _ => rfl) ?_
  refine C_seq ?_
  refine C_seq ?_
  refine C_region ?_
  refine V_y (Y_move rfl) rfl rfl rfl ?_
  refine V_y (Y_lenSl h_s1 rfl Tryz.underlying30 rfl) rfl rfl rfl ?_
  refine V_y (Y_move rfl) rfl rfl rfl ?_
  refine V_y (Y_lenSl h_s2 rfl Tryz.underlying30 rfl) rfl rfl rfl ?_
  refine V_y (Y_neq rfl rfl) rfl rfl rfl ?_
  refine V_to (fun _ _ => rfl) ?_
  refine C_cond rfl (fun hc5 => ?_) (fun hc5 => ?_)
  · rw [if_pos hc5] at hm
    refine C_seq ?_
    refine C_region ?_
    refine V_y (Y_assign rfl) rfl rfl rfl ?_
    refine V_to (fun _ _ => rfl) ?_
    obtain rfl := Option.some.inj hm
    refine C_ret ?_
    try simp only [↓inBlock_ret, ↓then_ret]
    exact retQ rfl (Res.one Tryz.results33 rfl) ⟨rfl, hK.kp⟩
  · rw [if_neg (nt hc5)] at hm
    refine C_skip_to (fun _ _ => rfl) ?_
    refine C_seq ?_
    refine C_seq ?_
    refine C_region ?_
    refine V_y (Y_move rfl) rfl rfl rfl ?_
    refine V_y (Y_lenSl h_s1 rfl Tryz.underlying30 rfl) rfl rfl rfl ?_
    refine V_y (Y_move rfl) rfl rfl rfl ?_
    refine V_to (fun _ _ => rfl) ?_
    have hn27 := Sl.le h_s1
    obtain ⟨o6, ho6, hm⟩ := Option.bind_eq_some_iff.1 hm
    refine C_cutG (ι := (Unit × (Nat → Prop))) (fun ⟨s7, A13⟩ => []) (fun ⟨s7, A13⟩ => fun w' => o6 = .fin s7 ∧ Hp w.heap.size A13 w' ([]) ∧ Tr Dw w.heap.size A w A13 w') ?_ ?_
    · refine C_block ?_
      refine C_range ho6 (fun k9 _ a w' => ∃ i : (Nat → Prop), Has ⟨26, [], none⟩ a ([(0, v_s1), (1, v_s2), (12, .int .i64 (s1.length : Int)), (13, .int .i64 (k9 : Int))]) ∧ Hp w.heap.size i w' ([]) ∧ Tr Dw w.heap.size A w i w') (fun a ha => ⟨A, ha.sub ⟨rfl, rfl, rfl, rfl, trivial⟩, ⟨hH, Tr.refl (Dw := Dw) hA⟩⟩) ?_
      rintro K k9 _ a w17 ⟨A18, ha45, hH19, hr8⟩ hle23 K26 h25
      refine C_of ?_ ha45
      replace h_s1 := Sl.tr (Dw := Dw) h_s1 hr8
      replace h_s2 := Sl.tr (Dw := Dw) h_s2 hr8
      replace hK := Tr.trans (Dw := Dw) hK hr8
      replace hB := Nat.le_trans hB hr8.ex.size
      replace hA := hr8.new
      replace hH : Hp w.heap.size A18 w17 ([]) := hH19
      refine C_seq (C_region (V_y (Y_lss rfl rfl) rfl rfl rfl (V_to (fun _ _ => rfl) ?_)))
      refine C_seq ?_
      refine C_cond rfl (fun hc28 => ?_) (fun hc28 => ?_)
      · have hlt24 := lt_of_dec hc28
        obtain ⟨x20, h21, h22⟩ := K26 hlt24
        refine C_skip_to (fun _ _ => rfl) ?_
        refine C_seq ?_
        refine C_block ?_
        refine C_seq ?_
        refine C_region ?_
        refine V_y (Y_move rfl) rfl rfl rfl ?_
        refine V_y (Y_assign rfl) rfl rfl rfl ?_
        refine V_to (fun _ _ => rfl) ?_
        refine C_seq ?_
        refine C_region_q (Dw := Dw) Tryz_mixed (by kernel_rfl) ?_
        refine VQ_y (fun w' hw' => Y_move rfl) rfl rfl rfl ?_
        refine VQ_y (fun w' hw' => Y_move rfl) rfl rfl rfl ?_
        obtain ⟨x29, hx29, h21⟩ := Option.bind_eq_some_iff.1 h21
        refine VQ_indexAddr h_s1 hx29 Tryz.underlying30 Tryz.sizeOf102 rfl rfl rfl ?_
        intro b30 o31 h32
        obtain ⟨h33, _⟩ := El_route_Skill h32
        refine VQ_y (fun w' hw' => Y_loadA (At.kp (Dw := Dw) h33 hw' h32.2.1) Tryz.isAgg102 Tryz.sizeOf102 rfl) rfl rfl rfl ?_
        refine VQ_y (fun w' hw' => Y_move rfl) rfl rfl rfl ?_
        refine VQ_y (fun w' hw' => Y_move rfl) rfl rfl rfl ?_
        obtain ⟨x34, hx34, h21⟩ := Option.bind_eq_some_iff.1 h21
        refine VQ_indexAddr h_s2 hx34 Tryz.underlying30 Tryz.sizeOf102 rfl rfl rfl ?_
        intro b35 o36 h37
        obtain ⟨h38, _⟩ := El_route_Skill h37
        refine VQ_y (fun w' hw' => Y_loadA (At.kp (Dw := Dw) h38 hw' h37.2.1) Tryz.isAgg102 Tryz.sizeOf102 rfl) rfl rfl rfl ?_
        refine VQ_y (fun w' hw' => Y_neqA (fun w => Tryz_eqt102_10000 x29.name x29.rank x34.name x34.rank w) Tryz_eqg102 rfl rfl) rfl rfl rfl ?_
        refine VQ_to (fun _ _ => rfl) (fun w39 hk40 => ?_)
        have ht41 := Kp.tr (Dw := Dw) hk40 hA hB
        replace hH := Hp.kp (Dw := Dw) hH hk40
        replace h_s1 := Sl.tr (Dw := Dw) h_s1 ht41
        replace h_s2 := Sl.tr (Dw := Dw) h_s2 ht41
        replace hK := Tr.trans (Dw := Dw) hK ht41
        replace hr8 := Tr.trans (Dw := Dw) hr8 ht41
        replace hB := Nat.le_trans hB ht41.ex.size
        replace hA := ht41.new
        refine C_cond rfl (fun hc42 => ?_) (fun hc42 => ?_)
        · rw [if_pos hc42] at h21
          refine C_seq ?_
          refine C_region ?_
          refine V_y (Y_assign rfl) rfl rfl rfl ?_
          refine V_to (fun _ _ => rfl) ?_
          obtain rfl := Option.some.inj h21
          obtain rfl := (h22 : Lp.rt _ = _)
          rw [Lp.andThen_rt] at hm
          obtain rfl := Option.some.inj hm
          refine C_ret ?_
          try simp only [↓inBlock_ret, ↓then_ret]
          exact retQ rfl (Res.one Tryz.results33 rfl) ⟨rfl, hK.kp⟩
        · rw [if_neg (nt hc42)] at h21
          refine C_skip_to (fun _ _ => rfl) ?_
          refine C_region ?_
          refine V_y (Y_addI rfl rfl) rfl rfl rfl ?_
          refine V_y (Y_move rfl) rfl rfl rfl ?_
          obtain rfl := Option.some.inj h21
          refine V_end (fun a ha43 => ?_)
          exact ⟨(), hlt24, h22, ⟨A18, ha43.sub ⟨rfl, rfl, rfl, (congrArg (fun z => some (Value.int .i64 z)) (w64_succ hlt24 hn27)), trivial⟩, ⟨hH, hr8⟩⟩⟩
      · refine C_exit (fun a ha44 => ?_)
        exact ⟨((), A18), ha44.sub trivial, ⟨(h25 (eq_of_dec hle23 hc28)).symm, hH, hr8⟩⟩
    rintro ⟨s7, A13⟩ w10 ⟨rfl, hH14, hk11⟩ a ha12
    rw [Lp.andThen_fin] at hm
    replace hK := Tr.trans (Dw := Dw) hK hk11
    replace hB := Nat.le_trans hB hk11.ex.size
    replace hA := hk11.new
    replace hH : Hp w.heap.size A13 w10 ([]) := hH14
    refine C_at (n := ⟨26, [], none⟩) (fun _ _ => rfl) ?_ ha12
    refine C_seq ?_
    refine C_region ?_
    refine V_y (Y_assign rfl) rfl rfl rfl ?_
    refine V_to (fun _ _ => rfl) ?_
    obtain rfl := Option.some.inj hm
    refine C_ret ?_
    try simp only [↓inBlock_ret, ↓then_ret]
    exact retQ rfl (Res.one Tryz.results33 rfl) ⟨rfl, hK.kp⟩

set_option maxRecDepth 4000 in
set_option maxHeartbeats 4000000 in
theorem portref2_Alike_6_c (w : World) {A : Nat → Prop} (hA : ∀ b, w.heap.size ≤ b → A b) (a_ : route_Person) (v_a_ : Value) (h_a_ : Sl A w v_a_ a_.skills) (b : route_Person) (v_b : Value) (h_b : Sl A w v_b b.skills) {r : Bool} (hm : portref2_Alike_6 a_ b = some r) : Ret Tryz.prog 32 #[.agg #[.int .i64 a_.no, .int .i64 a_.capacity, .int .i64 a_.calendar, v_a_], .agg #[.int .i64 b.no, .int .i64 b.capacity, .int .i64 b.calendar, v_b]] w fun v w' => v = .bool r ∧ Kp Dw w w' := by
  unfold portref2_Alike_6 at hm
  refine enter Tryz.func32 rfl Tryz.ntmps32 rfl ?_
  have hA0 := hA
  have hB := Nat.le_refl w.heap.size
  have hK : Tr Dw w.heap.size A w A w := Tr.refl (Dw := Dw) hA
  have hH : Hp w.heap.size A w [] := Hp.nil
  refine C_seq ?_
  refine C_region ?_
  refine V_box rfl rfl ?_
  intro b5 w6 h7
  have hk9 := h7.kp (Dw := Dw)
  have h8 : El (α := route_Person) A w6 b5 0 a_ := h7.el hA ⟨[.int .i64 a_.no], _, rfl, rfl, ⟨[.int .i64 a_.capacity], _, rfl, rfl, ⟨[.int .i64 a_.calendar], _, rfl, rfl, ⟨_, rfl, h_a_⟩⟩⟩⟩
  have ht10 := Kp.tr (Dw := Dw) hk9 hA hB
  replace hH := Hp.kp (Dw := Dw) hH hk9
  replace h_a_ := Sl.tr (Dw := Dw) h_a_ ht10
  replace h_b := Sl.tr (Dw := Dw) h_b ht10
  replace hK := Tr.trans (Dw := Dw) hK ht10
  replace hB := Nat.le_trans hB ht10.ex.size
  replace hA := ht10.new
  refine V_box rfl rfl ?_
  intro b11 w12 h13
  have hk15 := h13.kp (Dw := Dw)
  have h14 : El (α := route_Person) A w12 b11 0 b := h13.el hA ⟨[.int .i64 b.no], _, rfl, rfl, ⟨[.int .i64 b.capacity], _, rfl, rfl, ⟨[.int .i64 b.calendar], _, rfl, rfl, ⟨_, rfl, h_b⟩⟩⟩⟩
  have ht16 := Kp.tr (Dw := Dw) hk15 hA hB
  replace hH := Hp.kp (Dw := Dw) hH hk15
  replace h_a_ := Sl.tr (Dw := Dw) h_a_ ht16
  replace h_b := Sl.tr (Dw := Dw) h_b ht16
  replace h8 := El.tr (Dw := Dw) h8 ht16
  replace hK := Tr.trans (Dw := Dw) hK ht16
  replace hB := Nat.le_trans hB ht16.ex.size
  replace hA := ht16.new
  refine V_y (Y_assign rfl) rfl rfl rfl ?_
  refine V_to (fun _ _ => rfl) ?_
  refine C_seq ?_
  obtain ⟨s18, ho17, hm⟩ := Option.bind_eq_some_iff.1 hm
  refine C_cutG (ι := (Nat → Prop)) (fun (A23 : (Nat → Prop)) => [(4, .bool s18)]) (fun (A23 : (Nat → Prop)) => fun w' => Hp w.heap.size A23 w' ([]) ∧ Tr Dw w.heap.size A w12 A23 w') ?_ ?_
  · have hr19 : Tr Dw w.heap.size A w12 A w12 := Tr.refl (Dw := Dw) hA
    refine C_region ?_
    have h25 := El_route_Person_0 h8
    refine V_y (Y_fieldAddr Tryz.underlying32 rfl Tryz.sizeOf3 (by decide) rfl) rfl rfl rfl ?_
    refine V_y (Y_load (El.int h25) Tryz.isAgg3 rfl) rfl rfl rfl ?_
    have h26 := El_route_Person_0 h14
    refine V_y (Y_fieldAddr Tryz.underlying32 rfl Tryz.sizeOf3 (by decide) rfl) rfl rfl rfl ?_
    refine V_y (Y_load (El.int h26) Tryz.isAgg3 rfl) rfl rfl rfl ?_
    refine V_y (Y_eql rfl rfl) rfl rfl rfl ?_
    refine V_y (Y_move rfl) rfl rfl rfl ?_
    rcases Bool.eq_false_or_eq_true (a_.no == b.no) with hc27 | hc27
    · rw [if_pos hc27] at ho17
      refine V_ge rfl rfl rfl hc27 ?_
      have h28 := El_route_Person_1 h8
      refine V_y (Y_fieldAddr Tryz.underlying32 rfl Tryz.sizeOf3 (by decide) rfl) rfl rfl rfl ?_
      refine V_ge rfl rfl rfl hc27 ?_
      refine V_y (Y_load (El.int h28) Tryz.isAgg3 rfl) rfl rfl rfl ?_
      refine V_ge rfl rfl rfl hc27 ?_
      have h29 := El_route_Person_1 h14
      refine V_y (Y_fieldAddr Tryz.underlying32 rfl Tryz.sizeOf3 (by decide) rfl) rfl rfl rfl ?_
      refine V_ge rfl rfl rfl hc27 ?_
      refine V_y (Y_load (El.int h29) Tryz.isAgg3 rfl) rfl rfl rfl ?_
      refine V_ge rfl rfl rfl hc27 ?_
      refine V_y (Y_eql rfl rfl) rfl rfl rfl ?_
      refine V_y (Y_pick_te rfl hc27 rfl) rfl rfl rfl ?_
      refine V_y (Y_move rfl) rfl rfl rfl ?_
      rcases Bool.eq_false_or_eq_true (a_.capacity == b.capacity) with hc30 | hc30
      · rw [if_pos hc30] at ho17
        refine V_ge rfl rfl rfl hc30 ?_
        have h31 := El_route_Person_2 h8
        refine V_y (Y_fieldAddr Tryz.underlying32 rfl Tryz.sizeOf3 (by decide) rfl) rfl rfl rfl ?_
        refine V_ge rfl rfl rfl hc30 ?_
        refine V_y (Y_load (El.int h31) Tryz.isAgg3 rfl) rfl rfl rfl ?_
        refine V_ge rfl rfl rfl hc30 ?_
        have h32 := El_route_Person_2 h14
        refine V_y (Y_fieldAddr Tryz.underlying32 rfl Tryz.sizeOf3 (by decide) rfl) rfl rfl rfl ?_
        refine V_ge rfl rfl rfl hc30 ?_
        refine V_y (Y_load (El.int h32) Tryz.isAgg3 rfl) rfl rfl rfl ?_
        refine V_ge rfl rfl rfl hc30 ?_
        refine V_y (Y_eql rfl rfl) rfl rfl rfl ?_
        refine V_y (Y_pick_te rfl hc30 rfl) rfl rfl rfl ?_
        refine V_y (Y_move rfl) rfl rfl rfl ?_
        rcases Bool.eq_false_or_eq_true (a_.calendar == b.calendar) with hc33 | hc33
        · rw [if_pos hc33] at ho17
          refine V_ge rfl rfl rfl hc33 ?_
          have h34 := El_route_Person_3 h8
          refine V_y (Y_fieldAddr Tryz.underlying32 rfl Tryz.sizeOf30 (by decide) rfl) rfl rfl rfl ?_
          refine V_ge rfl rfl rfl hc33 ?_
          obtain ⟨v35, h36, h37⟩ := El.list h34
          refine V_y (Y_load h36 Tryz.isAgg30 rfl) rfl rfl rfl ?_
          refine V_ge rfl rfl rfl hc33 ?_
          have h38 := El_route_Person_3 h14
          refine V_y (Y_fieldAddr Tryz.underlying32 rfl Tryz.sizeOf30 (by decide) rfl) rfl rfl rfl ?_
          refine V_ge rfl rfl rfl hc33 ?_
          obtain ⟨v39, h40, h41⟩ := El.list h38
          refine V_y (Y_load h40 Tryz.isAgg30 rfl) rfl rfl rfl ?_
          refine V_ge rfl rfl rfl hc33 ?_
          obtain ⟨x42, hx42, ho17⟩ := Option.bind_eq_some_iff.1 ho17
          refine V_call Tryz.call33 rfl rfl rfl rfl (slices_Equal_Lroute_Skill_route_Skill_c (Dw := Dw) w12 hA a_.skills v35 h37 b.skills v39 h41 hx42) ?_
          rintro _ w43 ⟨rfl, hk44⟩
          have ht45 := Kp.tr (Dw := Dw) hk44 hA hB
          replace hH := Hp.kp (Dw := Dw) hH hk44
          replace h8 := El.tr (Dw := Dw) h8 ht45
          replace h14 := El.tr (Dw := Dw) h14 ht45
          replace h25 := El.tr (Dw := Dw) h25 ht45
          replace h26 := El.tr (Dw := Dw) h26 ht45
          replace h28 := El.tr (Dw := Dw) h28 ht45
          replace h29 := El.tr (Dw := Dw) h29 ht45
          replace h31 := El.tr (Dw := Dw) h31 ht45
          replace h32 := El.tr (Dw := Dw) h32 ht45
          replace h34 := El.tr (Dw := Dw) h34 ht45
          replace h37 := Sl.tr (Dw := Dw) h37 ht45
          replace h38 := El.tr (Dw := Dw) h38 ht45
          replace h41 := Sl.tr (Dw := Dw) h41 ht45
          replace hK := Tr.trans (Dw := Dw) hK ht45
          replace hr19 := Tr.trans (Dw := Dw) hr19 ht45
          replace hB := Nat.le_trans hB ht45.ex.size
          replace hA := ht45.new
          refine V_y (Y_pick_te rfl hc33 rfl) rfl rfl rfl ?_
          refine V_y (Y_assign rfl) rfl rfl rfl ?_
          obtain rfl := Option.some.inj ho17
          refine V_end (fun a ha46 => ?_)
          exact ⟨A, ha46.sub ⟨rfl, trivial⟩, ⟨hH, hr19⟩⟩
        · rw [if_neg (nt hc33)] at ho17
          refine V_gn rfl rfl rfl hc33 rfl rfl rfl ?_
          refine V_gn rfl rfl rfl hc33 rfl rfl rfl ?_
          refine V_gn rfl rfl rfl hc33 rfl rfl rfl ?_
          refine V_gn rfl rfl rfl hc33 rfl rfl rfl ?_
          refine V_gn rfl rfl rfl hc33 rfl rfl rfl ?_
          refine V_y (Y_pick_fe rfl hc33 rfl) rfl rfl rfl ?_
          refine V_y (Y_assign rfl) rfl rfl rfl ?_
          obtain rfl := Option.some.inj ho17
          refine V_end (fun a ha47 => ?_)
          exact ⟨A, ha47.sub ⟨rfl, trivial⟩, ⟨hH, hr19⟩⟩
      · rw [if_neg (nt hc30)] at ho17
        refine V_gn rfl rfl rfl hc30 rfl rfl rfl ?_
        refine V_gn rfl rfl rfl hc30 rfl rfl rfl ?_
        refine V_gn rfl rfl rfl hc30 rfl rfl rfl ?_
        refine V_gn rfl rfl rfl hc30 rfl rfl rfl ?_
        refine V_gn rfl rfl rfl hc30 rfl rfl rfl ?_
        refine V_y (Y_pick_fe rfl hc30 rfl) rfl rfl rfl ?_
        refine V_y (Y_move rfl) rfl rfl rfl ?_
        rcases Bool.eq_false_or_eq_true (false) with hc48 | hc48
        · rw [if_pos hc48] at ho17
          refine V_ge rfl rfl rfl hc48 ?_
          have h49 := El_route_Person_3 h8
          refine V_y (Y_fieldAddr Tryz.underlying32 rfl Tryz.sizeOf30 (by decide) rfl) rfl rfl rfl ?_
          refine V_ge rfl rfl rfl hc48 ?_
          obtain ⟨v50, h51, h52⟩ := El.list h49
          refine V_y (Y_load h51 Tryz.isAgg30 rfl) rfl rfl rfl ?_
          refine V_ge rfl rfl rfl hc48 ?_
          have h53 := El_route_Person_3 h14
          refine V_y (Y_fieldAddr Tryz.underlying32 rfl Tryz.sizeOf30 (by decide) rfl) rfl rfl rfl ?_
          refine V_ge rfl rfl rfl hc48 ?_
          obtain ⟨v54, h55, h56⟩ := El.list h53
          refine V_y (Y_load h55 Tryz.isAgg30 rfl) rfl rfl rfl ?_
          refine V_ge rfl rfl rfl hc48 ?_
          obtain ⟨x57, hx57, ho17⟩ := Option.bind_eq_some_iff.1 ho17
          refine V_call Tryz.call33 rfl rfl rfl rfl (slices_Equal_Lroute_Skill_route_Skill_c (Dw := Dw) w12 hA a_.skills v50 h52 b.skills v54 h56 hx57) ?_
          rintro _ w58 ⟨rfl, hk59⟩
          have ht60 := Kp.tr (Dw := Dw) hk59 hA hB
          replace hH := Hp.kp (Dw := Dw) hH hk59
          replace h8 := El.tr (Dw := Dw) h8 ht60
          replace h14 := El.tr (Dw := Dw) h14 ht60
          replace h25 := El.tr (Dw := Dw) h25 ht60
          replace h26 := El.tr (Dw := Dw) h26 ht60
          replace h28 := El.tr (Dw := Dw) h28 ht60
          replace h29 := El.tr (Dw := Dw) h29 ht60
          replace h49 := El.tr (Dw := Dw) h49 ht60
          replace h52 := Sl.tr (Dw := Dw) h52 ht60
          replace h53 := El.tr (Dw := Dw) h53 ht60
          replace h56 := Sl.tr (Dw := Dw) h56 ht60
          replace hK := Tr.trans (Dw := Dw) hK ht60
          replace hr19 := Tr.trans (Dw := Dw) hr19 ht60
          replace hB := Nat.le_trans hB ht60.ex.size
          replace hA := ht60.new
          refine V_y (Y_pick_te rfl hc48 rfl) rfl rfl rfl ?_
          refine V_y (Y_assign rfl) rfl rfl rfl ?_
          obtain rfl := Option.some.inj ho17
          refine V_end (fun a ha61 => ?_)
          exact ⟨A, ha61.sub ⟨rfl, trivial⟩, ⟨hH, hr19⟩⟩
        · rw [if_neg (nt hc48)] at ho17
          refine V_gn rfl rfl rfl hc48 rfl rfl rfl ?_
          refine V_gn rfl rfl rfl hc48 rfl rfl rfl ?_
          refine V_gn rfl rfl rfl hc48 rfl rfl rfl ?_
          refine V_gn rfl rfl rfl hc48 rfl rfl rfl ?_
          refine V_gn rfl rfl rfl hc48 rfl rfl rfl ?_
          refine V_y (Y_pick_fe rfl hc48 rfl) rfl rfl rfl ?_
          refine V_y (Y_assign rfl) rfl rfl rfl ?_
          obtain rfl := Option.some.inj ho17
          refine V_end (fun a ha62 => ?_)
          exact ⟨A, ha62.sub ⟨rfl, trivial⟩, ⟨hH, hr19⟩⟩
    · rw [if_neg (nt hc27)] at ho17
      refine V_gn rfl rfl rfl hc27 rfl rfl rfl ?_
      refine V_gn rfl rfl rfl hc27 rfl rfl rfl ?_
      refine V_gn rfl rfl rfl hc27 rfl rfl rfl ?_
      refine V_gn rfl rfl rfl hc27 rfl rfl rfl ?_
      refine V_gn rfl rfl rfl hc27 rfl rfl rfl ?_
      refine V_y (Y_pick_fe rfl hc27 rfl) rfl rfl rfl ?_
      refine V_y (Y_move rfl) rfl rfl rfl ?_
      rcases Bool.eq_false_or_eq_true (false) with hc63 | hc63
      · rw [if_pos hc63] at ho17
        refine V_ge rfl rfl rfl hc63 ?_
        have h64 := El_route_Person_2 h8
        refine V_y (Y_fieldAddr Tryz.underlying32 rfl Tryz.sizeOf3 (by decide) rfl) rfl rfl rfl ?_
        refine V_ge rfl rfl rfl hc63 ?_
        refine V_y (Y_load (El.int h64) Tryz.isAgg3 rfl) rfl rfl rfl ?_
        refine V_ge rfl rfl rfl hc63 ?_
        have h65 := El_route_Person_2 h14
        refine V_y (Y_fieldAddr Tryz.underlying32 rfl Tryz.sizeOf3 (by decide) rfl) rfl rfl rfl ?_
        refine V_ge rfl rfl rfl hc63 ?_
        refine V_y (Y_load (El.int h65) Tryz.isAgg3 rfl) rfl rfl rfl ?_
        refine V_ge rfl rfl rfl hc63 ?_
        refine V_y (Y_eql rfl rfl) rfl rfl rfl ?_
        refine V_y (Y_pick_te rfl hc63 rfl) rfl rfl rfl ?_
        refine V_y (Y_move rfl) rfl rfl rfl ?_
        rcases Bool.eq_false_or_eq_true (a_.calendar == b.calendar) with hc66 | hc66
        · rw [if_pos hc66] at ho17
          refine V_ge rfl rfl rfl hc66 ?_
          have h67 := El_route_Person_3 h8
          refine V_y (Y_fieldAddr Tryz.underlying32 rfl Tryz.sizeOf30 (by decide) rfl) rfl rfl rfl ?_
          refine V_ge rfl rfl rfl hc66 ?_
          obtain ⟨v68, h69, h70⟩ := El.list h67
          refine V_y (Y_load h69 Tryz.isAgg30 rfl) rfl rfl rfl ?_
          refine V_ge rfl rfl rfl hc66 ?_
          have h71 := El_route_Person_3 h14
          refine V_y (Y_fieldAddr Tryz.underlying32 rfl Tryz.sizeOf30 (by decide) rfl) rfl rfl rfl ?_
          refine V_ge rfl rfl rfl hc66 ?_
          obtain ⟨v72, h73, h74⟩ := El.list h71
          refine V_y (Y_load h73 Tryz.isAgg30 rfl) rfl rfl rfl ?_
          refine V_ge rfl rfl rfl hc66 ?_
          obtain ⟨x75, hx75, ho17⟩ := Option.bind_eq_some_iff.1 ho17
          refine V_call Tryz.call33 rfl rfl rfl rfl (slices_Equal_Lroute_Skill_route_Skill_c (Dw := Dw) w12 hA a_.skills v68 h70 b.skills v72 h74 hx75) ?_
          rintro _ w76 ⟨rfl, hk77⟩
          have ht78 := Kp.tr (Dw := Dw) hk77 hA hB
          replace hH := Hp.kp (Dw := Dw) hH hk77
          replace h8 := El.tr (Dw := Dw) h8 ht78
          replace h14 := El.tr (Dw := Dw) h14 ht78
          replace h25 := El.tr (Dw := Dw) h25 ht78
          replace h26 := El.tr (Dw := Dw) h26 ht78
          replace h64 := El.tr (Dw := Dw) h64 ht78
          replace h65 := El.tr (Dw := Dw) h65 ht78
          replace h67 := El.tr (Dw := Dw) h67 ht78
          replace h70 := Sl.tr (Dw := Dw) h70 ht78
          replace h71 := El.tr (Dw := Dw) h71 ht78
          replace h74 := Sl.tr (Dw := Dw) h74 ht78
          replace hK := Tr.trans (Dw := Dw) hK ht78
          replace hr19 := Tr.trans (Dw := Dw) hr19 ht78
          replace hB := Nat.le_trans hB ht78.ex.size
          replace hA := ht78.new
          refine V_y (Y_pick_te rfl hc66 rfl) rfl rfl rfl ?_
          refine V_y (Y_assign rfl) rfl rfl rfl ?_
          obtain rfl := Option.some.inj ho17
          refine V_end (fun a ha79 => ?_)
          exact ⟨A, ha79.sub ⟨rfl, trivial⟩, ⟨hH, hr19⟩⟩
        · rw [if_neg (nt hc66)] at ho17
          refine V_gn rfl rfl rfl hc66 rfl rfl rfl ?_
          refine V_gn rfl rfl rfl hc66 rfl rfl rfl ?_
          refine V_gn rfl rfl rfl hc66 rfl rfl rfl ?_
          refine V_gn rfl rfl rfl hc66 rfl rfl rfl ?_
          refine V_gn rfl rfl rfl hc66 rfl rfl rfl ?_
          refine V_y (Y_pick_fe rfl hc66 rfl) rfl rfl rfl ?_
          refine V_y (Y_assign rfl) rfl rfl rfl ?_
          obtain rfl := Option.some.inj ho17
          refine V_end (fun a ha80 => ?_)
          exact ⟨A, ha80.sub ⟨rfl, trivial⟩, ⟨hH, hr19⟩⟩
      · rw [if_neg (nt hc63)] at ho17
        refine V_gn rfl rfl rfl hc63 rfl rfl rfl ?_
        refine V_gn rfl rfl rfl hc63 rfl rfl rfl ?_
        refine V_gn rfl rfl rfl hc63 rfl rfl rfl ?_
        refine V_gn rfl rfl rfl hc63 rfl rfl rfl ?_
        refine V_gn rfl rfl rfl hc63 rfl rfl rfl ?_
        refine V_y (Y_pick_fe rfl hc63 rfl) rfl rfl rfl ?_
        refine V_y (Y_move rfl) rfl rfl rfl ?_
        rcases Bool.eq_false_or_eq_true (false) with hc81 | hc81
        · rw [if_pos hc81] at ho17
          refine V_ge rfl rfl rfl hc81 ?_
          have h82 := El_route_Person_3 h8
          refine V_y (Y_fieldAddr Tryz.underlying32 rfl Tryz.sizeOf30 (by decide) rfl) rfl rfl rfl ?_
          refine V_ge rfl rfl rfl hc81 ?_
          obtain ⟨v83, h84, h85⟩ := El.list h82
          refine V_y (Y_load h84 Tryz.isAgg30 rfl) rfl rfl rfl ?_
          refine V_ge rfl rfl rfl hc81 ?_
          have h86 := El_route_Person_3 h14
          refine V_y (Y_fieldAddr Tryz.underlying32 rfl Tryz.sizeOf30 (by decide) rfl) rfl rfl rfl ?_
          refine V_ge rfl rfl rfl hc81 ?_
          obtain ⟨v87, h88, h89⟩ := El.list h86
          refine V_y (Y_load h88 Tryz.isAgg30 rfl) rfl rfl rfl ?_
          refine V_ge rfl rfl rfl hc81 ?_
          obtain ⟨x90, hx90, ho17⟩ := Option.bind_eq_some_iff.1 ho17
          refine V_call Tryz.call33 rfl rfl rfl rfl (slices_Equal_Lroute_Skill_route_Skill_c (Dw := Dw) w12 hA a_.skills v83 h85 b.skills v87 h89 hx90) ?_
          rintro _ w91 ⟨rfl, hk92⟩
          have ht93 := Kp.tr (Dw := Dw) hk92 hA hB
          replace hH := Hp.kp (Dw := Dw) hH hk92
          replace h8 := El.tr (Dw := Dw) h8 ht93
          replace h14 := El.tr (Dw := Dw) h14 ht93
          replace h25 := El.tr (Dw := Dw) h25 ht93
          replace h26 := El.tr (Dw := Dw) h26 ht93
          replace h82 := El.tr (Dw := Dw) h82 ht93
          replace h85 := Sl.tr (Dw := Dw) h85 ht93
          replace h86 := El.tr (Dw := Dw) h86 ht93
          replace h89 := Sl.tr (Dw := Dw) h89 ht93
          replace hK := Tr.trans (Dw := Dw) hK ht93
          replace hr19 := Tr.trans (Dw := Dw) hr19 ht93
          replace hB := Nat.le_trans hB ht93.ex.size
          replace hA := ht93.new
          refine V_y (Y_pick_te rfl hc81 rfl) rfl rfl rfl ?_
          refine V_y (Y_assign rfl) rfl rfl rfl ?_
          obtain rfl := Option.some.inj ho17
          refine V_end (fun a ha94 => ?_)
          exact ⟨A, ha94.sub ⟨rfl, trivial⟩, ⟨hH, hr19⟩⟩
        · rw [if_neg (nt hc81)] at ho17
          refine V_gn rfl rfl rfl hc81 rfl rfl rfl ?_
          refine V_gn rfl rfl rfl hc81 rfl rfl rfl ?_
          refine V_gn rfl rfl rfl hc81 rfl rfl rfl ?_
          refine V_gn rfl rfl rfl hc81 rfl rfl rfl ?_
          refine V_gn rfl rfl rfl hc81 rfl rfl rfl ?_
          refine V_y (Y_pick_fe rfl hc81 rfl) rfl rfl rfl ?_
          refine V_y (Y_assign rfl) rfl rfl rfl ?_
          obtain rfl := Option.some.inj ho17
          refine V_end (fun a ha95 => ?_)
          exact ⟨A, ha95.sub ⟨rfl, trivial⟩, ⟨hH, hr19⟩⟩
  rintro A23 w20 ⟨hH24, hk21⟩ a ha22
  replace hK := Tr.trans (Dw := Dw) hK hk21
  replace hB := Nat.le_trans hB hk21.ex.size
  replace hA := hk21.new
  replace hH : Hp w.heap.size A23 w20 ([]) := hH24
  refine C_at (n := ⟨31, [], none⟩) (fun _ _ => rfl) ?_ ha22
  obtain rfl := Option.some.inj hm
  refine C_ret ?_
  try simp only [↓inBlock_ret, ↓then_ret]
  exact retQ rfl (Res.one Tryz.results32 rfl) ⟨rfl, hK.kp⟩

set_option maxRecDepth 4000 in
set_option maxHeartbeats 4000000 in
theorem portref2_Alike_c (w : World) {A : Nat → Prop} (hA : ∀ b, w.heap.size ≤ b → A b) (a_ : (List route_Person)) (v_a_ : Value) (h_a_ : Sl A w v_a_ a_) (b : (List route_Person)) (v_b : Value) (h_b : Sl A w v_b b) {r : Bool} (hm : portref2_Alike a_ b = some r) : Ret Tryz.prog 6 #[.iface 22 v_a_, .iface 22 v_b] w fun v w' => v = .bool r ∧ Kp Dw w w' := by
  unfold portref2_Alike at hm
  refine enter Tryz.func6 rfl Tryz.ntmps6 rfl ?_
  have hA0 := hA
  have hB := Nat.le_refl w.heap.size
  have hK : Tr Dw w.heap.size A w A w := Tr.refl (Dw := Dw) hA
  have hH : Hp w.heap.size A w [] := Hp.nil
  refine C_seq ?_
  refine C_region ?_
  refine V_y (Y_assign rfl) rfl rfl rfl ?_
  refine V_to (fun _ _ => rfl) ?_
  refine C_seq ?_
  refine C_seq ?_
  refine C_region ?_
  refine V_y (Y_move rfl) rfl rfl rfl ?_
  refine V_to (fun _ _ => rfl) ?_
  refine C_block ?_
  refine C_seq ?_
  refine C_region ?_
  refine V_y (Y_asNS Tryz.underlying46 Tryz.zeroValue46 (by decide) rfl) rfl rfl rfl ?_
  refine V_y (Y_extract rfl rfl) rfl rfl rfl ?_
  refine V_y (Y_extract rfl rfl) rfl rfl rfl ?_
  refine V_to (fun _ _ => rfl) ?_
  refine C_cond rfl (fun hc => ?_) (fun hc => ?_)
  · exact absurd hc (by decide)
  · refine C_seq ?_
    refine C_region ?_
    refine V_y (Y_asNL Tryz.underlying58 Tryz.zeroValue58 (by decide) rfl) rfl rfl rfl ?_
    refine V_y (Y_extract rfl rfl) rfl rfl rfl ?_
    refine V_y (Y_extract rfl rfl) rfl rfl rfl ?_
    refine V_to (fun _ _ => rfl) ?_
    refine C_cond rfl (fun hc => ?_) (fun hc => ?_)
    · exact absurd hc (by decide)
    · refine C_seq ?_
      refine C_region ?_
      refine V_y (Y_asNL Tryz.underlying68 Tryz.zeroValue68 (by decide) rfl) rfl rfl rfl ?_
      refine V_y (Y_extract rfl rfl) rfl rfl rfl ?_
      refine V_y (Y_extract rfl rfl) rfl rfl rfl ?_
      refine V_to (fun _ _ => rfl) ?_
      refine C_cond rfl (fun hc => ?_) (fun hc => ?_)
      · exact absurd hc (by decide)
      · refine C_seq ?_
        refine C_region ?_
        refine V_y (Y_asNS Tryz.underlying78 Tryz.zeroValue78 (by decide) rfl) rfl rfl rfl ?_
        refine V_y (Y_extract rfl rfl) rfl rfl rfl ?_
        refine V_y (Y_extract rfl rfl) rfl rfl rfl ?_
        refine V_to (fun _ _ => rfl) ?_
        refine C_cond rfl (fun hc => ?_) (fun hc => ?_)
        · exact absurd hc (by decide)
        · refine C_seq ?_
          refine C_region ?_
          refine V_y (Y_asNS Tryz.underlying92 Tryz.zeroValue92 (by decide) rfl) rfl rfl rfl ?_
          refine V_y (Y_extract rfl rfl) rfl rfl rfl ?_
          refine V_y (Y_extract rfl rfl) rfl rfl rfl ?_
          refine V_to (fun _ _ => rfl) ?_
          refine C_cond rfl (fun hc => ?_) (fun hc => ?_)
          · exact absurd hc (by decide)
          · refine C_seq ?_
            refine C_region ?_
            refine V_y (Y_asIL Tryz.underlying22 rfl) rfl rfl rfl ?_
            refine V_y (Y_extract rfl rfl) rfl rfl rfl ?_
            refine V_y (Y_extract rfl rfl) rfl rfl rfl ?_
            refine V_to (fun _ _ => rfl) ?_
            refine C_cond rfl (fun hc => ?_) (fun hc => ?_)
            · refine C_seq ?_
              refine C_region ?_
              refine V_y (Y_assign rfl) rfl rfl rfl ?_
              refine V_to (fun _ _ => rfl) ?_
              refine C_seq ?_
              refine C_region ?_
              refine V_y (Y_move rfl) rfl rfl rfl ?_
              refine V_y (Y_asIL Tryz.underlying22 rfl) rfl rfl rfl ?_
              refine V_y (Y_move rfl) rfl rfl rfl ?_
              refine V_y (Y_extract rfl rfl) rfl rfl rfl ?_
              refine V_y (Y_extract rfl rfl) rfl rfl rfl ?_
              refine V_y (Y_assign rfl) rfl rfl rfl ?_
              refine V_y (Y_assign rfl) rfl rfl rfl ?_
              refine V_to (fun _ _ => rfl) ?_
              refine C_seq ?_
              obtain ⟨s6, ho5, hm⟩ := Option.bind_eq_some_iff.1 hm
              refine C_cutG (ι := (Nat → Prop)) (fun (A12 : (Nat → Prop)) => [(4, .bool s6)]) (fun (A12 : (Nat → Prop)) => fun w' => Hp w.heap.size A12 w' ([]) ∧ Tr Dw w.heap.size A w A12 w') ?_ ?_
              · have hr7 : Tr Dw w.heap.size A w A w := Tr.refl (Dw := Dw) hA
                refine C_region ?_
                refine V_y (Y_move rfl) rfl rfl rfl ?_
                refine V_y (Y_move rfl) rfl rfl rfl ?_
                rcases Bool.eq_false_or_eq_true (true) with hc14 | hc14
                · rw [if_pos hc14] at ho5
                  refine V_ge rfl rfl rfl hc14 ?_
                  refine V_y (Y_move rfl) rfl rfl rfl ?_
                  refine V_ge rfl rfl rfl hc14 ?_
                  refine V_y (Y_move rfl) rfl rfl rfl ?_
                  refine V_ge rfl rfl rfl hc14 ?_
                  obtain ⟨x17, hx17, ho5⟩ := Option.bind_eq_some_iff.1 ho5
                  refine V_call Tryz.call31 rfl rfl rfl rfl (slices_EqualFunc_Lroute_Person_Lroute_Person_route_Person_route_Person_c (Dw := Dw) w hA a_ v_a_ h_a_ b v_b h_b (fun y30 y31 => portref2_Alike_6 y30 y31) 32 #[] #[] Tryz.call32 (fun w26 A27 ht28 h29 y18 v19 h20 y21 v22 h23 r24 h25 => (portref2_Alike_6_c (Dw := Dw) w26 h29 y18 v19 h20 y21 v22 h23  h25).mono (fun _ _ h => ⟨h.1, h.2⟩)) hx17) ?_
                  rintro _ w33 ⟨rfl, hk34⟩
                  have ht35 := Kp.tr (Dw := Dw) hk34 hA hB
                  replace hH := Hp.kp (Dw := Dw) hH hk34
                  replace h_a_ := Sl.tr (Dw := Dw) h_a_ ht35
                  replace h_b := Sl.tr (Dw := Dw) h_b ht35
                  replace hK := Tr.trans (Dw := Dw) hK ht35
                  replace hr7 := Tr.trans (Dw := Dw) hr7 ht35
                  replace hB := Nat.le_trans hB ht35.ex.size
                  replace hA := ht35.new
                  refine V_y (Y_pick_te rfl hc14 rfl) rfl rfl rfl ?_
                  refine V_y (Y_assign rfl) rfl rfl rfl ?_
                  obtain rfl := Option.some.inj ho5
                  refine V_end (fun a ha36 => ?_)
                  exact ⟨A, ha36.sub ⟨rfl, trivial⟩, ⟨hH, hr7⟩⟩
                · rw [if_neg (nt hc14)] at ho5
                  refine V_gn rfl rfl rfl hc14 rfl rfl rfl ?_
                  refine V_gn rfl rfl rfl hc14 rfl rfl rfl ?_
                  refine V_gn rfl rfl rfl hc14 rfl rfl rfl ?_
                  refine V_y (Y_pick_fe rfl hc14 rfl) rfl rfl rfl ?_
                  refine V_y (Y_assign rfl) rfl rfl rfl ?_
                  obtain rfl := Option.some.inj ho5
                  refine V_end (fun a ha37 => ?_)
                  exact ⟨A, ha37.sub ⟨rfl, trivial⟩, ⟨hH, hr7⟩⟩
              rintro A12 w9 ⟨hH13, hk10⟩ a ha11
              replace hK := Tr.trans (Dw := Dw) hK hk10
              replace hB := Nat.le_trans hB hk10.ex.size
              replace hA := hk10.new
              replace hH : Hp w.heap.size A12 w9 ([]) := hH13
              refine C_at (n := ⟨248, [], none⟩) (fun _ _ => rfl) ?_ ha11
              obtain rfl := Option.some.inj hm
              refine C_ret ?_
              try simp only [↓inBlock_ret, ↓then_ret]
              exact retQ rfl (Res.one Tryz.results6 rfl) ⟨rfl, hK.kp⟩
            · exact absurd hc (by decide)

set_option maxRecDepth 4000 in
set_option maxHeartbeats 4000000 in
theorem portlaw2_RouteReads_c (w : World) {A : Nat → Prop} (hA : ∀ b, w.heap.size ≤ b → A b) (hT : Fz Tryz_FR A w) (s : ByteArray) {r : Bool} (hm : portlaw2_RouteReads s = some r) : Ret Tryz.prog 3 #[.string s] w fun v w' => v = .bool r ∧ Kp False w w' := by
  unfold portlaw2_RouteReads at hm
  refine enter Tryz.func3 rfl Tryz.ntmps3 rfl ?_
  have hA0 := hA
  have hB := Nat.le_refl w.heap.size
  have hK : Tr False w.heap.size A w A w := Tr.refl (Dw := False) hA
  have hH : Hp w.heap.size A w [] := Hp.nil
  refine C_seq ?_
  refine C_region ?_
  refine V_y (Y_assign rfl) rfl rfl rfl ?_
  refine V_to (fun _ _ => rfl) ?_
  refine C_seq ?_
  refine C_region ?_
  refine V_y (Y_move rfl) rfl rfl rfl ?_
  obtain ⟨x1, hx1, hm⟩ := Option.bind_eq_some_iff.1 hm
  refine V_call Tryz.call4 rfl rfl rfl rfl (route_ReadPeople_c w hB hA (Fz.tr (Dw := False) hT hK) s hH hx1) ?_
  rintro _ w4 ⟨v2, A5, rfl, hH6, ht7⟩
  replace hK := Tr.trans (Dw := False) hK ht7
  replace hB := Nat.le_trans hB ht7.ex.size
  replace hA := ht7.new
  replace hH : Hp w.heap.size A5 w4 (obS (α := route_Person) 32 v2 x1.1 :: []) := hH6
  refine V_y (Y_move rfl) rfl rfl rfl ?_
  refine V_y (Y_extract rfl rfl) rfl rfl rfl ?_
  refine V_y (Y_extract rfl rfl) rfl rfl rfl ?_
  refine V_y (Y_extract rfl rfl) rfl rfl rfl ?_
  refine V_y (Y_assign rfl) rfl rfl rfl ?_
  refine V_y (Y_assign rfl) rfl rfl rfl ?_
  refine V_y (Y_assign rfl) rfl rfl rfl ?_
  refine V_to (fun _ _ => rfl) ?_
  refine C_seq ?_
  refine C_region ?_
  refine V_y (Y_move rfl) rfl rfl rfl ?_
  obtain ⟨x8, hx8, hm⟩ := Option.bind_eq_some_iff.1 hm
  refine V_call Tryz.call5 rfl rfl rfl rfl (portref2_ReadPeopleOf_c w4 hB hA (Fz.tr (Dw := False) hT hK) s hH hx8) ?_
  rintro _ w11 ⟨v9, A12, rfl, hH13, ht14⟩
  replace hK := Tr.trans (Dw := False) hK ht14
  replace hB := Nat.le_trans hB ht14.ex.size
  replace hA := ht14.new
  replace hH : Hp w.heap.size A12 w11 (obS (α := route_Person) 32 v9 x8.1 :: obS (α := route_Person) 32 v2 x1.1 :: []) := hH13
  refine V_y (Y_move rfl) rfl rfl rfl ?_
  refine V_y (Y_extract rfl rfl) rfl rfl rfl ?_
  refine V_y (Y_extract rfl rfl) rfl rfl rfl ?_
  refine V_y (Y_extract rfl rfl) rfl rfl rfl ?_
  refine V_y (Y_assign rfl) rfl rfl rfl ?_
  refine V_y (Y_assign rfl) rfl rfl rfl ?_
  refine V_y (Y_assign rfl) rfl rfl rfl ?_
  refine V_to (fun _ _ => rfl) ?_
  refine C_seq ?_
  obtain ⟨A15, ht16, h17, hH18⟩ := Hp.freeze (Dw := False) (α := route_Person) (v := v2) (l := x1.1) hH (i := 1) rfl hA
  replace hK := Tr.trans (Dw := False) hK ht16
  replace hB := Nat.le_trans hB ht16.ex.size
  replace hA := ht16.new
  replace hH : Hp w.heap.size A15 w11 (obS (α := route_Person) 32 v9 x8.1 :: []) := hH18
  obtain ⟨A20, ht21, h22, hH23⟩ := Hp.freeze (Dw := False) (α := route_Person) (v := v9) (l := x8.1) hH (i := 0) rfl hA
  replace h17 := Sl.tr (Dw := False) h17 ht21
  replace hK := Tr.trans (Dw := False) hK ht21
  replace hB := Nat.le_trans hB ht21.ex.size
  replace hA := ht21.new
  replace hH : Hp w.heap.size A20 w11 ([]) := hH23
  obtain ⟨s26, ho25, hm⟩ := Option.bind_eq_some_iff.1 hm
  refine C_cutG (ι := (Nat → Prop)) (fun (A31 : (Nat → Prop)) => [(2, .bool s26)]) (fun (A31 : (Nat → Prop)) => fun w' => Hp w.heap.size A31 w' ([]) ∧ Tr False w.heap.size A20 w11 A31 w') ?_ ?_
  · have hr27 : Tr False w.heap.size A20 w11 A20 w11 := Tr.refl (Dw := False) hA
    refine C_region ?_
    refine V_y (Y_move rfl) rfl rfl rfl ?_
    refine V_y (Y_move rfl) rfl rfl rfl ?_
    refine V_y (Y_eql rfl rfl) rfl rfl rfl ?_
    refine V_y (Y_move rfl) rfl rfl rfl ?_
    rcases Bool.eq_false_or_eq_true (x1.2.1 == x8.2.1) with hc33 | hc33
    · rw [if_pos hc33] at ho25
      refine V_ge rfl rfl rfl hc33 ?_
      refine V_y (Y_move rfl) rfl rfl rfl ?_
      refine V_ge rfl rfl rfl hc33 ?_
      refine V_y (Y_move rfl) rfl rfl rfl ?_
      refine V_ge rfl rfl rfl hc33 ?_
      refine V_y (Y_eql rfl rfl) rfl rfl rfl ?_
      refine V_y (Y_pick_te rfl hc33 rfl) rfl rfl rfl ?_
      refine V_y (Y_move rfl) rfl rfl rfl ?_
      rcases Bool.eq_false_or_eq_true (x1.2.2 == x8.2.2) with hc34 | hc34
      · rw [if_pos hc34] at ho25
        refine V_ge rfl rfl rfl hc34 ?_
        refine V_y (Y_move rfl) rfl rfl rfl ?_
        refine V_ge rfl rfl rfl hc34 ?_
        refine V_y (Y_mkIL Tryz.underlying22 rfl) rfl rfl rfl ?_
        refine V_ge rfl rfl rfl hc34 ?_
        refine V_y (Y_move rfl) rfl rfl rfl ?_
        refine V_ge rfl rfl rfl hc34 ?_
        refine V_y (Y_mkIL Tryz.underlying22 rfl) rfl rfl rfl ?_
        refine V_ge rfl rfl rfl hc34 ?_
        obtain ⟨x35, hx35, ho25⟩ := Option.bind_eq_some_iff.1 ho25
        refine V_call Tryz.call6 rfl rfl rfl rfl (portref2_Alike_c (Dw := False) w11 hA x1.1 v2 h17 x8.1 v9 h22 hx35) ?_
        rintro _ w36 ⟨rfl, hk37⟩
        have ht38 := Kp.tr (Dw := False) hk37 hA hB
        replace hH := Hp.kp (Dw := False) hH hk37
        replace h17 := Sl.tr (Dw := False) h17 ht38
        replace h22 := Sl.tr (Dw := False) h22 ht38
        replace hK := Tr.trans (Dw := False) hK ht38
        replace hr27 := Tr.trans (Dw := False) hr27 ht38
        replace hB := Nat.le_trans hB ht38.ex.size
        replace hA := ht38.new
        refine V_y (Y_pick_te rfl hc34 rfl) rfl rfl rfl ?_
        refine V_y (Y_assign rfl) rfl rfl rfl ?_
        obtain rfl := Option.some.inj ho25
        refine V_end (fun a ha39 => ?_)
        exact ⟨A20, ha39.sub ⟨rfl, trivial⟩, ⟨hH, hr27⟩⟩
      · rw [if_neg (nt hc34)] at ho25
        refine V_gn rfl rfl rfl hc34 rfl rfl rfl ?_
        refine V_gn rfl rfl rfl hc34 rfl rfl rfl ?_
        refine V_gn rfl rfl rfl hc34 rfl rfl rfl ?_
        refine V_gn rfl rfl rfl hc34 rfl rfl rfl ?_
        refine V_gn rfl rfl rfl hc34 rfl rfl rfl ?_
        refine V_y (Y_pick_fe rfl hc34 rfl) rfl rfl rfl ?_
        refine V_y (Y_assign rfl) rfl rfl rfl ?_
        obtain rfl := Option.some.inj ho25
        refine V_end (fun a ha40 => ?_)
        exact ⟨A20, ha40.sub ⟨rfl, trivial⟩, ⟨hH, hr27⟩⟩
    · rw [if_neg (nt hc33)] at ho25
      refine V_gn rfl rfl rfl hc33 rfl rfl rfl ?_
      refine V_gn rfl rfl rfl hc33 rfl rfl rfl ?_
      refine V_gn rfl rfl rfl hc33 rfl rfl rfl ?_
      refine V_y (Y_pick_fe rfl hc33 rfl) rfl rfl rfl ?_
      refine V_y (Y_move rfl) rfl rfl rfl ?_
      rcases Bool.eq_false_or_eq_true (false) with hc41 | hc41
      · rw [if_pos hc41] at ho25
        refine V_ge rfl rfl rfl hc41 ?_
        refine V_y (Y_move rfl) rfl rfl rfl ?_
        refine V_ge rfl rfl rfl hc41 ?_
        refine V_y (Y_mkIL Tryz.underlying22 rfl) rfl rfl rfl ?_
        refine V_ge rfl rfl rfl hc41 ?_
        refine V_y (Y_move rfl) rfl rfl rfl ?_
        refine V_ge rfl rfl rfl hc41 ?_
        refine V_y (Y_mkIL Tryz.underlying22 rfl) rfl rfl rfl ?_
        refine V_ge rfl rfl rfl hc41 ?_
        obtain ⟨x42, hx42, ho25⟩ := Option.bind_eq_some_iff.1 ho25
        refine V_call Tryz.call6 rfl rfl rfl rfl (portref2_Alike_c (Dw := False) w11 hA x1.1 v2 h17 x8.1 v9 h22 hx42) ?_
        rintro _ w43 ⟨rfl, hk44⟩
        have ht45 := Kp.tr (Dw := False) hk44 hA hB
        replace hH := Hp.kp (Dw := False) hH hk44
        replace h17 := Sl.tr (Dw := False) h17 ht45
        replace h22 := Sl.tr (Dw := False) h22 ht45
        replace hK := Tr.trans (Dw := False) hK ht45
        replace hr27 := Tr.trans (Dw := False) hr27 ht45
        replace hB := Nat.le_trans hB ht45.ex.size
        replace hA := ht45.new
        refine V_y (Y_pick_te rfl hc41 rfl) rfl rfl rfl ?_
        refine V_y (Y_assign rfl) rfl rfl rfl ?_
        obtain rfl := Option.some.inj ho25
        refine V_end (fun a ha46 => ?_)
        exact ⟨A20, ha46.sub ⟨rfl, trivial⟩, ⟨hH, hr27⟩⟩
      · rw [if_neg (nt hc41)] at ho25
        refine V_gn rfl rfl rfl hc41 rfl rfl rfl ?_
        refine V_gn rfl rfl rfl hc41 rfl rfl rfl ?_
        refine V_gn rfl rfl rfl hc41 rfl rfl rfl ?_
        refine V_gn rfl rfl rfl hc41 rfl rfl rfl ?_
        refine V_gn rfl rfl rfl hc41 rfl rfl rfl ?_
        refine V_y (Y_pick_fe rfl hc41 rfl) rfl rfl rfl ?_
        refine V_y (Y_assign rfl) rfl rfl rfl ?_
        obtain rfl := Option.some.inj ho25
        refine V_end (fun a ha47 => ?_)
        exact ⟨A20, ha47.sub ⟨rfl, trivial⟩, ⟨hH, hr27⟩⟩
  rintro A31 w28 ⟨hH32, hk29⟩ a ha30
  replace hK := Tr.trans (Dw := False) hK hk29
  replace hB := Nat.le_trans hB hk29.ex.size
  replace hA := hk29.new
  replace hH : Hp w.heap.size A31 w28 ([]) := hH32
  refine C_at (n := ⟨36, [], none⟩) (fun _ _ => rfl) ?_ ha30
  obtain rfl := Option.some.inj hm
  refine C_ret ?_
  try simp only [↓inBlock_ret, ↓then_ret]
  exact retQ rfl (Res.one Tryz.results3 rfl) ⟨rfl, hK.kp⟩

end Go.Proofs.YtpiihecmmdeofaaGreatDoor.W
