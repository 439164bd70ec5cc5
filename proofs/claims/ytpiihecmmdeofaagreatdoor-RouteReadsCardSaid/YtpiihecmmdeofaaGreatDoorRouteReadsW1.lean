/-
  Written by program (gen.py) from the IR of the dump: each function computes its model.
-/
import Derived.Test.YtpiihecmmdeofaaGreatDoorRouteReadsW0
namespace Go.Proofs.YtpiihecmmdeofaaGreatDoor.W
open Go Go.RowKit Go.Pu Go.Gw Go.Proofs Go.Proofs.YtpiihecmmdeofaaGreatDoor.M
set_option linter.unusedVariables false
set_option linter.unusedSimpArgs false
variable {Dw : Prop}

set_option maxRecDepth 4000 in
set_option maxHeartbeats 4000000 in
theorem route_ReadPeople_c (w : World) {A : Nat → Prop} {B : Nat} (hB : B ≤ w.heap.size) (hA : ∀ b, w.heap.size ≤ b → A b) (hT : Fz Tryz_FR A w) (s : ByteArray) {L : List Ob} (hH : Hp B A w (L)) {r : ((List route_Person) × Int × Int)} (hm : route_ReadPeople s = some r) : Ret Tryz.prog 4 #[.string s] w fun v w' => ∃ s0, ∃ A1 : Nat → Prop, v = .tuple #[s0, .int .i64 r.2.1, .int .i64 r.2.2] ∧ Hp B A1 w' (obS (α := route_Person) 32 s0 r.1 :: L) ∧ Tr False B A w A1 w' := by
  unfold route_ReadPeople at hm
  refine enter Tryz.func4 rfl Tryz.ntmps4 rfl ?_
  have hK : Tr False B A w A w := Tr.refl (Dw := False) hA
  refine C_seq ?_
  refine C_region ?_
  refine V_y (Y_assign rfl) rfl rfl rfl ?_
  refine V_y (Y_assign rfl) rfl rfl rfl ?_
  refine V_y (Y_assign rfl) rfl rfl rfl ?_
  refine V_to (fun _ _ => rfl) ?_
  refine C_seq ?_
  refine C_seq ?_
  refine C_region ?_
  refine V_y (Y_move rfl) rfl rfl rfl ?_
  refine V_y (Y_lenStr rfl Tryz.underlying9 rfl) rfl rfl rfl ?_
  refine V_y (Y_gtr rfl rfl) rfl rfl rfl ?_
  refine V_to (fun _ _ => rfl) ?_
  refine C_cond rfl (fun hc1 => ?_) (fun hc1 => ?_)
  · rw [if_pos hc1] at hm
    refine C_seq ?_
    refine C_region ?_
    refine V_y (Y_assign rfl) rfl rfl rfl ?_
    refine V_y (Y_assign rfl) rfl rfl rfl ?_
    refine V_y (Y_assign rfl) rfl rfl rfl ?_
    refine V_to (fun _ _ => rfl) ?_
    obtain rfl := Option.some.inj hm
    replace hH : Hp B A w (obS (α := route_Person) 32 (.slice none 0 0) ([] : (List route_Person)) :: L) := Hp.addNil (α := route_Person) (e := 32) hH
    refine C_ret ?_
    try simp only [↓inBlock_ret, ↓then_ret]
    exact retQ rfl (Res.three Tryz.results4 rfl rfl rfl) ⟨.slice none 0 0, A, rfl, hH, hK⟩
  · rw [if_neg (nt hc1)] at hm
    refine C_skip_to (fun _ _ => rfl) ?_
    refine C_seq ?_
    refine C_region ?_
    refine V_y (Y_assign rfl) rfl rfl rfl ?_
    refine V_to (fun _ _ => rfl) ?_
    refine C_seq ?_
    refine C_seq ?_
    refine C_region ?_
    refine V_y (Y_assign rfl) rfl rfl rfl ?_
    refine V_to (fun _ _ => rfl) ?_
    replace hH : Hp B A w (obS (α := route_Person) 32 (.slice none 0 0) ([] : (List route_Person)) :: L) := Hp.addNil (α := route_Person) (e := 32) hH
    obtain ⟨o2, ho2, hm⟩ := Option.bind_eq_some_iff.1 hm
    refine C_cutG (ι := ((ByteArray × (List route_Person) × Int) × Value × (Nat → Prop))) (fun ⟨s3, v9, A11⟩ => [(5, v9)]) (fun ⟨s3, v9, A11⟩ => fun w' => o2 = .fin s3 ∧ Hp B A11 w' (obS (α := route_Person) 32 v9 s3.2.1 :: L) ∧ Tr False B A w A11 w') ?_ ?_
    · refine C_block ?_
      refine C_while ho2 (fun s13 a w' => ∃ i : (Value × (Nat → Prop)), Has ⟨49, [], none⟩ a ([(0, .string s13.1), (5, i.1), (6, .int .i64 s13.2.2)]) ∧ Hp B i.2 w' (obS (α := route_Person) 32 i.1 s13.2.1 :: L) ∧ Tr False B A w i.2 w') (fun a ha => ⟨(.slice none 0 0, A), ha.sub ⟨rfl, rfl, rfl, trivial⟩, ⟨hH, Tr.refl (Dw := False) hA⟩⟩) ?_
      rintro K s13 a w14 ⟨⟨v15, A17⟩, ha71, hH18, hr4⟩ K25
      refine C_of ?_ ha71
      replace hK := Tr.trans (Dw := False) hK hr4
      replace hB := Nat.le_trans hB hr4.ex.size
      replace hA := hr4.new
      replace hH : Hp B A17 w14 (obS (α := route_Person) 32 v15 s13.2.1 :: L) := hH18
      obtain ⟨x19, h20, h21⟩ := K25
      refine C_seq ?_
      refine C_seq ?_
      refine C_region ?_
      refine V_y (Y_move rfl) rfl rfl rfl ?_
      refine V_y (Y_sneq rfl rfl) rfl rfl rfl ?_
      refine V_to (fun _ _ => rfl) ?_
      refine C_cond rfl (fun hc26 => ?_) (fun hc26 => ?_)
      · rw [if_pos hc26] at h20
        refine C_skip_to (fun _ _ => rfl) ?_
        refine C_seq ?_
        refine C_block ?_
        refine C_seq ?_
        refine C_region ?_
        refine V_y (Y_move rfl) rfl rfl rfl ?_
        obtain ⟨x27, hx27, h20⟩ := Option.bind_eq_some_iff.1 h20
        refine V_call Tryz.call7 rfl rfl rfl rfl (strings_Cut_c (Dw := False) w14 hA s13.1 (⟨#[10]⟩ : ByteArray) hx27) ?_
        rintro _ w28 ⟨rfl, hk29⟩
        have ht30 := Kp.tr (Dw := False) hk29 hA hB
        replace hH := Hp.kp (Dw := False) hH hk29
        replace hK := Tr.trans (Dw := False) hK ht30
        replace hr4 := Tr.trans (Dw := False) hr4 ht30
        replace hB := Nat.le_trans hB ht30.ex.size
        replace hA := ht30.new
        refine V_y (Y_move rfl) rfl rfl rfl ?_
        refine V_y (Y_extract rfl rfl) rfl rfl rfl ?_
        refine V_y (Y_extract rfl rfl) rfl rfl rfl ?_
        refine V_y (Y_extract rfl rfl) rfl rfl rfl ?_
        refine V_y (Y_assign rfl) rfl rfl rfl ?_
        refine V_y (Y_assign rfl) rfl rfl rfl ?_
        refine V_y (Y_assign rfl) rfl rfl rfl ?_
        refine V_to (fun _ _ => rfl) ?_
        refine C_seq ?_
        refine C_region ?_
        refine V_y (Y_move rfl) rfl rfl rfl ?_
        obtain ⟨x31, hx31, h20⟩ := Option.bind_eq_some_iff.1 h20
        refine V_call Tryz.call8 rfl rfl rfl rfl (route_readPerson_c w28 hA (Fz.tr (Dw := False) hT hK) x27.1 hx31) ?_
        rintro _ w34 ⟨v32, rfl, h33, hk35⟩
        have ht36 := Kp.tr (Dw := False) hk35 hA hB
        replace hH := Hp.kp (Dw := False) hH hk35
        replace hK := Tr.trans (Dw := False) hK ht36
        replace hr4 := Tr.trans (Dw := False) hr4 ht36
        replace hB := Nat.le_trans hB ht36.ex.size
        replace hA := ht36.new
        refine V_y (Y_move rfl) rfl rfl rfl ?_
        refine V_y (Y_extract rfl rfl) rfl rfl rfl ?_
        refine V_y (Y_extract rfl rfl) rfl rfl rfl ?_
        refine V_alloc Tryz.zeroValue32 rfl ?_
        intro b37 w38 h39
        have h44 : (v32).oneCell' = true := by obtain ⟨_, _, e, _⟩ := Sl.form h33; rw [e]; rfl
        refine V_storeNew h39 Tryz.sizeOf32 rfl rfl rfl rfl (by exact (List.forall_mem_cons.2 ⟨rfl, (List.forall_mem_cons.2 ⟨rfl, (List.forall_mem_cons.2 ⟨rfl, (List.forall_mem_cons.2 ⟨h44, (fun _ h => nomatch h)⟩)⟩)⟩)⟩)) ?_
        intro w40 h41
        have hk46 := h41.kp (Dw := False)
        have h45 : El (α := route_Person) A17 w40 b37 0 x31.1 := h41.el hA ⟨[.int .i64 x31.1.no], _, rfl, rfl, ⟨[.int .i64 x31.1.capacity], _, rfl, rfl, ⟨[.int .i64 x31.1.calendar], _, rfl, rfl, ⟨_, rfl, h33⟩⟩⟩⟩
        have ht47 := Kp.tr (Dw := False) hk46 hA hB
        replace hH := Hp.kp (Dw := False) hH hk46
        replace h33 := Sl.tr (Dw := False) h33 ht47
        replace hK := Tr.trans (Dw := False) hK ht47
        replace hr4 := Tr.trans (Dw := False) hr4 ht47
        replace hB := Nat.le_trans hB ht47.ex.size
        replace hA := ht47.new
        refine V_y (Y_assign rfl) rfl rfl rfl ?_
        refine V_to (fun _ _ => rfl) ?_
        refine C_seq ?_
        refine C_seq ?_
        refine C_region ?_
        refine V_y (Y_move rfl) rfl rfl rfl ?_
        refine V_y (Y_not rfl) rfl rfl rfl ?_
        refine V_y (Y_move rfl) rfl rfl rfl ?_
        refine V_cut 3 (fun _ : Unit => [(5, v15), (6, .int .i64 s13.2.2), (8, .string x27.2.1), (10, .pointer (some ⟨b37, 0, none⟩)), (36, .bool ((!x31.2) || (!x27.2.2)))]) (fun _ w' => w40 = w') ?_ ?_
        · simp only [List.take, List.drop]
          rcases Bool.eq_false_or_eq_true (!x31.2) with hc48 | hc48
          · refine V_gn rfl rfl rfl hc48 rfl rfl rfl ?_
            refine V_gn rfl rfl rfl hc48 rfl rfl rfl ?_
            refine V_y (Y_pick_te rfl hc48 rfl) rfl rfl rfl ?_
            exact V_end fun a ha => ⟨(), ha.sub ⟨rfl, rfl, rfl, rfl, (by rw [hc48]; rfl), trivial⟩, rfl⟩
          · refine V_ge rfl rfl rfl hc48 ?_
            refine V_y (Y_move rfl) rfl rfl rfl ?_
            refine V_ge rfl rfl rfl hc48 ?_
            refine V_y (Y_not rfl) rfl rfl rfl ?_
            refine V_y (Y_pick_fe rfl hc48 rfl) rfl rfl rfl ?_
            exact V_end fun a ha => ⟨(), ha.sub ⟨rfl, rfl, rfl, rfl, (by rw [hc48]; rfl), trivial⟩, rfl⟩
        simp only [List.take, List.drop]
        rintro _ _ rfl
        refine V_to (fun _ _ => rfl) ?_
        refine C_cond rfl (fun hc50 => ?_) (fun hc50 => ?_)
        · rw [if_pos hc50] at h20
          refine C_seq ?_
          refine C_region ?_
          refine V_y (Y_move rfl) rfl rfl rfl ?_
          refine V_y (Y_assign rfl) rfl rfl rfl ?_
          refine V_y (Y_assign rfl) rfl rfl rfl ?_
          refine V_y (Y_assign rfl) rfl rfl rfl ?_
          refine V_to (fun _ _ => rfl) ?_
          obtain rfl := Option.some.inj h20
          obtain rfl := (h21 : Lp.rt _ = _)
          rw [Lp.andThen_rt] at hm
          obtain rfl := Option.some.inj hm
          replace hH : Hp B A17 w40 (obS (α := route_Person) 32 (.slice none 0 0) ([] : (List route_Person)) :: obS (α := route_Person) 32 v15 s13.2.1 :: L) := Hp.addNil (α := route_Person) (e := 32) hH
          replace hH : Hp B A17 w40 (obS (α := route_Person) 32 (.slice none 0 0) ([] : (List route_Person)) :: L) := Hp.drop hH (i := 1) rfl
          refine C_ret ?_
          try simp only [↓inBlock_ret, ↓then_ret]
          exact retQ rfl (Res.three Tryz.results4 rfl rfl rfl) ⟨.slice none 0 0, A17, rfl, hH, hK⟩
        · rw [if_neg (nt hc50)] at h20
          refine C_skip_to (fun _ _ => rfl) ?_
          refine C_seq ?_
          refine C_region ?_
          refine V_y (Y_move rfl) rfl rfl rfl ?_
          obtain ⟨v51, h53, h52⟩ := El_route_Person h45
          refine V_y (Y_loadA h53 Tryz.isAgg32 Tryz.sizeOf32 rfl) rfl rfl rfl ?_
          refine V_buildSlice (Dw := False) (cells := #[.int .i64 x31.1.no, .int .i64 x31.1.capacity, .int .i64 x31.1.calendar, v51]) (l := ([x31.1] : List route_Person)) (len := 1) Tryz.underlying22 Tryz.sizeOf32 Tryz.zeroValue32 rfl (by obtain ⟨a58, c59, e60, _⟩ := Sl.form h52; subst e60; kernel_rfl) (show (1 * 4 : Nat) ≠ 0 by decide) (show (1 * 4 : Nat) ≤ 2 ^ 24 by decide) hA ⟨[.int .i64 x31.1.no, .int .i64 x31.1.capacity, .int .i64 x31.1.calendar, v51], _, rfl, ⟨[.int .i64 x31.1.no], _, rfl, rfl, ⟨[.int .i64 x31.1.capacity], _, rfl, rfl, ⟨[.int .i64 x31.1.calendar], _, rfl, rfl, ⟨_, rfl, h52⟩⟩⟩⟩, rfl⟩ rfl rfl ?_
          intro v54 w55 hk57 h56
          have ht61 := Kp.tr (Dw := False) hk57 hA hB
          replace hH := Hp.kp (Dw := False) hH hk57
          replace h45 := El.tr (Dw := False) h45 ht61
          replace h52 := Sl.tr (Dw := False) h52 ht61
          replace hK := Tr.trans (Dw := False) hK ht61
          replace hr4 := Tr.trans (Dw := False) hr4 ht61
          replace hB := Nat.le_trans hB ht61.ex.size
          replace hA := ht61.new
          obtain ⟨x62, hx62, h20⟩ := Option.bind_eq_some_iff.1 h20
          refine V_appendH (Dw := False) (e := 32) (v := v15) (l := s13.2.1) (ti := Tryz.t32) (bytes := 48) (lim := 2932031007402) hH (i := 0) rfl h56 hx62 Tryz.underlying22 Tryz_info32 rfl rfl rfl rfl (by decide) (by decide) (by decide) hB hA rfl rfl rfl ?_
          intro v63 w65 A66 hH67 ht68
          replace h45 := El.tr (Dw := False) h45 ht68
          replace h52 := Sl.tr (Dw := False) h52 ht68
          replace h56 := Sl.tr (Dw := False) h56 ht68
          replace hK := Tr.trans (Dw := False) hK ht68
          replace hr4 := Tr.trans (Dw := False) hr4 ht68
          replace hB := Nat.le_trans hB ht68.ex.size
          replace hA := ht68.new
          replace hH : Hp B A66 w65 (obS (α := route_Person) 32 v63 x62 :: L) := hH67
          refine V_y (Y_assign rfl) rfl rfl rfl ?_
          refine V_to (fun _ _ => rfl) ?_
          refine C_region ?_
          refine V_y (Y_move rfl) rfl rfl rfl ?_
          refine V_y (Y_assign rfl) rfl rfl rfl ?_
          refine V_to (fun _ _ => rfl) ?_
          refine C_region ?_
          refine V_y (Y_move rfl) rfl rfl rfl ?_
          refine V_y (Y_addI rfl rfl) rfl rfl rfl ?_
          refine V_y (Y_assign rfl) rfl rfl rfl ?_
          obtain rfl := Option.some.inj h20
          refine V_end (fun a ha69 => ?_)
          exact ⟨(x27.2.1, x62, w64 (s13.2.2 + 1)), h21, ⟨(v63, A66), ha69.sub ⟨rfl, rfl, rfl, trivial⟩, ⟨hH, hr4⟩⟩⟩
      · rw [if_neg (nt hc26)] at h20
        obtain rfl := Option.some.inj h20
        refine C_exit (fun a ha70 => ?_)
        exact ⟨((s13.1, s13.2.1, s13.2.2), v15, A17), ha70.sub ⟨rfl, trivial⟩, ⟨h21.symm, hH, hr4⟩⟩
    rintro ⟨s3, v9, A11⟩ w6 ⟨rfl, hH12, hk7⟩ a ha8
    rw [Lp.andThen_fin] at hm
    replace hK := Tr.trans (Dw := False) hK hk7
    replace hB := Nat.le_trans hB hk7.ex.size
    replace hA := hk7.new
    replace hH : Hp B A11 w6 (obS (α := route_Person) 32 v9 s3.2.1 :: L) := hH12
    refine C_at (n := ⟨49, [], none⟩) (fun _ _ => rfl) ?_ ha8
    refine C_seq ?_
    refine C_seq ?_
    refine C_region ?_
    refine V_y (Y_move rfl) rfl rfl rfl ?_
    obtain ⟨x72, hx72, hm⟩ := Option.bind_eq_some_iff.1 hm
    refine V_call Tryz.call9 rfl rfl rfl rfl (route_CheckPeople_c (Dw := False) w6 (A := fun _ => True) (fun _ _ => trivial) s3.2.1 v9 (Hp.any (α := route_Person) (e := 32) (v := v9) (l := s3.2.1) hH (i := 0) rfl) hx72) ?_
    rintro _ w73 ⟨rfl, hk74⟩
    have ht75 := Kp.tr (Dw := False) hk74 hA hB
    replace hH := Hp.kp (Dw := False) hH hk74
    replace hK := Tr.trans (Dw := False) hK ht75
    replace hB := Nat.le_trans hB ht75.ex.size
    replace hA := ht75.new
    refine V_y (Y_assign rfl) rfl rfl rfl ?_
    refine V_to (fun _ _ => rfl) ?_
    refine C_seq ?_
    refine C_region ?_
    refine V_y (Y_move rfl) rfl rfl rfl ?_
    refine V_y (Y_neq rfl rfl) rfl rfl rfl ?_
    refine V_to (fun _ _ => rfl) ?_
    refine C_cond rfl (fun hc76 => ?_) (fun hc76 => ?_)
    · rw [if_pos hc76] at hm
      refine C_seq ?_
      refine C_region ?_
      refine V_y (Y_move rfl) rfl rfl rfl ?_
      refine V_y (Y_assign rfl) rfl rfl rfl ?_
      refine V_y (Y_assign rfl) rfl rfl rfl ?_
      refine V_y (Y_assign rfl) rfl rfl rfl ?_
      refine V_to (fun _ _ => rfl) ?_
      obtain rfl := Option.some.inj hm
      replace hH : Hp B A11 w73 (obS (α := route_Person) 32 (.slice none 0 0) ([] : (List route_Person)) :: obS (α := route_Person) 32 v9 s3.2.1 :: L) := Hp.addNil (α := route_Person) (e := 32) hH
      replace hH : Hp B A11 w73 (obS (α := route_Person) 32 (.slice none 0 0) ([] : (List route_Person)) :: L) := Hp.drop hH (i := 1) rfl
      refine C_ret ?_
      try simp only [↓inBlock_ret, ↓then_ret]
      exact retQ rfl (Res.three Tryz.results4 rfl rfl rfl) ⟨.slice none 0 0, A11, rfl, hH, hK⟩
    · rw [if_neg (nt hc76)] at hm
      refine C_skip_to (fun _ _ => rfl) ?_
      refine C_seq ?_
      refine C_region ?_
      refine V_y (Y_move rfl) rfl rfl rfl ?_
      refine V_y (Y_assign rfl) rfl rfl rfl ?_
      refine V_y (Y_assign rfl) rfl rfl rfl ?_
      refine V_y (Y_assign rfl) rfl rfl rfl ?_
      refine V_to (fun _ _ => rfl) ?_
      obtain rfl := Option.some.inj hm
      refine C_ret ?_
      try simp only [↓inBlock_ret, ↓then_ret]
      exact retQ rfl (Res.three Tryz.results4 rfl rfl rfl) ⟨v9, A11, rfl, hH, hK⟩

set_option maxRecDepth 4000 in
set_option maxHeartbeats 4000000 in
theorem strings_SplitAfter_c (w : World) {A : Nat → Prop} (hA : ∀ b, w.heap.size ≤ b → A b) (hT : Fz Tryz_FR A w) (s : ByteArray) (sep : ByteArray) {r : (List ByteArray)} (hm : strings_SplitAfter s sep = some r) : Ret Tryz.prog 10 #[.string s, .string sep] w fun v w' => ∃ s0, v = s0 ∧ Sl A w' s0 r ∧ Kp Dw w w' := by
  unfold strings_SplitAfter at hm
  refine enter Tryz.func10 rfl Tryz.ntmps10 rfl ?_
  have hA0 := hA
  have hB := Nat.le_refl w.heap.size
  have hK : Tr Dw w.heap.size A w A w := Tr.refl (Dw := Dw) hA
  have hH : Hp w.heap.size A w [] := Hp.nil
  refine C_seq ?_
  refine C_region ?_
  refine V_y (Y_assign rfl) rfl rfl rfl ?_
  refine V_to (fun _ _ => rfl) ?_
  refine C_seq ?_
  refine C_region ?_
  refine V_y (Y_move rfl) rfl rfl rfl ?_
  refine V_y (Y_move rfl) rfl rfl rfl ?_
  refine V_y (Y_move rfl) rfl rfl rfl ?_
  refine V_y (Y_lenStr rfl Tryz.underlying9 rfl) rfl rfl rfl ?_
  obtain ⟨x1, hx1, hm⟩ := Option.bind_eq_some_iff.1 hm
  refine V_call Tryz.call50 rfl rfl rfl rfl (strings_genSplit_c (Dw := Dw) w hA ((Fz.tr (Dw := Dw) hT hK)).2.1 s sep (sep.size : Int) (-1) hx1) ?_
  rintro v2 w4 ⟨_, rfl, h3, hk5⟩
  have ht6 := Kp.tr (Dw := Dw) hk5 hA hB
  replace hH := Hp.kp (Dw := Dw) hH hk5
  replace hK := Tr.trans (Dw := Dw) hK ht6
  replace hB := Nat.le_trans hB ht6.ex.size
  replace hA := ht6.new
  refine V_y (Y_assign rfl) rfl rfl rfl ?_
  refine V_to (fun _ _ => rfl) ?_
  obtain rfl := Option.some.inj hm
  refine C_ret ?_
  try simp only [↓inBlock_ret, ↓then_ret]
  exact retQ rfl (Res.one Tryz.results10 rfl) ⟨v2, rfl, (Sl.out (Dw := Dw) h3 hA0 hK), hK.kp⟩

set_option maxRecDepth 4000 in
set_option maxHeartbeats 4000000 in
theorem internal_stringslite_HasSuffix_c (w : World) (s : ByteArray) (suffix : ByteArray) {r : Bool} (hm : internal_stringslite_HasSuffix s suffix = some r) : Ret Tryz.prog 63 #[.string s, .string suffix] w fun v w' => v = .bool r ∧ w = w' := by
  unfold internal_stringslite_HasSuffix at hm
  refine enter Tryz.func63 rfl Tryz.ntmps63 rfl ?_
  refine C_seq ?_
  refine C_region ?_
  refine V_y (Y_assign rfl) rfl rfl rfl ?_
  refine V_to (fun _ _ => rfl) ?_
  refine C_seq ?_
  refine C_region ?_
  refine V_y (Y_move rfl) rfl rfl rfl ?_
  refine V_y (Y_lenStr rfl Tryz.underlying9 rfl) rfl rfl rfl ?_
  refine V_y (Y_move rfl) rfl rfl rfl ?_
  refine V_y (Y_lenStr rfl Tryz.underlying9 rfl) rfl rfl rfl ?_
  refine V_y (Y_geq rfl rfl) rfl rfl rfl ?_
  refine V_y (Y_move rfl) rfl rfl rfl ?_
  obtain ⟨s2, hs2, hm⟩ := Option.bind_eq_some_iff.1 hm
  refine V_cut 10 (fun _ : Unit => [(20, .bool s2)]) (fun _ w' => w = w') ?_ ?_
  · simp only [List.take, List.drop]
    rcases Bool.eq_false_or_eq_true (decide ((suffix.size : Int) ≤ (s.size : Int))) with hc1 | hc1
    · rw [if_pos hc1] at hs2
      refine V_ge rfl rfl rfl hc1 ?_
      refine V_y (Y_move rfl) rfl rfl rfl ?_
      refine V_ge rfl rfl rfl hc1 ?_
      refine V_y (Y_move rfl) rfl rfl rfl ?_
      refine V_ge rfl rfl rfl hc1 ?_
      refine V_y (Y_lenStr rfl Tryz.underlying9 rfl) rfl rfl rfl ?_
      refine V_ge rfl rfl rfl hc1 ?_
      refine V_y (Y_move rfl) rfl rfl rfl ?_
      refine V_ge rfl rfl rfl hc1 ?_
      refine V_y (Y_lenStr rfl Tryz.underlying9 rfl) rfl rfl rfl ?_
      refine V_ge rfl rfl rfl hc1 ?_
      refine V_y (Y_subI rfl rfl) rfl rfl rfl ?_
      refine V_ge rfl rfl rfl hc1 ?_
      obtain ⟨x3, hx3, hs2⟩ := Option.bind_eq_some_iff.1 hs2
      refine V_y (Y_sliceSL hx3 Tryz.underlying9 rfl rfl) rfl rfl rfl ?_
      refine V_ge rfl rfl rfl hc1 ?_
      refine V_y (Y_move rfl) rfl rfl rfl ?_
      refine V_ge rfl rfl rfl hc1 ?_
      refine V_y (Y_seql rfl rfl) rfl rfl rfl ?_
      refine V_y (Y_pick_te rfl hc1 rfl) rfl rfl rfl ?_
      obtain rfl := Option.some.inj hs2
      exact V_end fun a ha => ⟨(), ha.sub ⟨rfl, trivial⟩, rfl⟩
    · rw [if_neg (nt hc1)] at hs2
      refine V_gn rfl rfl rfl hc1 rfl rfl rfl ?_
      refine V_gn rfl rfl rfl hc1 rfl rfl rfl ?_
      refine V_gn rfl rfl rfl hc1 rfl rfl rfl ?_
      refine V_gn rfl rfl rfl hc1 rfl rfl rfl ?_
      refine V_gn rfl rfl rfl hc1 rfl rfl rfl ?_
      refine V_gn rfl rfl rfl hc1 rfl rfl rfl ?_
      refine V_gn rfl rfl rfl hc1 rfl rfl rfl ?_
      refine V_gn rfl rfl rfl hc1 rfl rfl rfl ?_
      refine V_gn rfl rfl rfl hc1 rfl rfl rfl ?_
      refine V_y (Y_pick_fe rfl hc1 rfl) rfl rfl rfl ?_
      obtain rfl := Option.some.inj hs2
      exact V_end fun a ha => ⟨(), ha.sub ⟨rfl, trivial⟩, rfl⟩
  simp only [List.take, List.drop]
  rintro _ _ rfl
  refine V_y (Y_assign rfl) rfl rfl rfl ?_
  refine V_to (fun _ _ => rfl) ?_
  obtain rfl := Option.some.inj hm
  refine C_ret ?_
  try simp only [↓inBlock_ret, ↓then_ret]
  exact retQ rfl (Res.one Tryz.results63 rfl) ⟨rfl, rfl⟩

set_option maxRecDepth 4000 in
set_option maxHeartbeats 4000000 in
theorem internal_stringslite_CutSuffix_c (w : World) (s : ByteArray) (suffix : ByteArray) {r : (ByteArray × Bool)} (hm : internal_stringslite_CutSuffix s suffix = some r) : Ret Tryz.prog 51 #[.string s, .string suffix] w fun v w' => v = .tuple #[.string r.1, .bool r.2] ∧ w = w' := by
  unfold internal_stringslite_CutSuffix at hm
  refine enter Tryz.func51 rfl Tryz.ntmps51 rfl ?_
  refine C_seq ?_
  refine C_region ?_
  refine V_y (Y_assign rfl) rfl rfl rfl ?_
  refine V_y (Y_assign rfl) rfl rfl rfl ?_
  refine V_to (fun _ _ => rfl) ?_
  refine C_seq ?_
  refine C_seq ?_
  refine C_region ?_
  refine V_y (Y_move rfl) rfl rfl rfl ?_
  refine V_y (Y_move rfl) rfl rfl rfl ?_
  obtain ⟨x1, hx1, hm⟩ := Option.bind_eq_some_iff.1 hm
  refine V_call Tryz.call63 rfl rfl rfl rfl (internal_stringslite_HasSuffix_c w s suffix hx1) ?_
  rintro _ _ ⟨rfl, rfl⟩
  refine V_y (Y_not rfl) rfl rfl rfl ?_
  refine V_to (fun _ _ => rfl) ?_
  refine C_cond rfl (fun hc2 => ?_) (fun hc2 => ?_)
  · rw [if_pos hc2] at hm
    refine C_seq ?_
    refine C_region ?_
    refine V_y (Y_move rfl) rfl rfl rfl ?_
    refine V_y (Y_assign rfl) rfl rfl rfl ?_
    refine V_y (Y_assign rfl) rfl rfl rfl ?_
    refine V_to (fun _ _ => rfl) ?_
    obtain rfl := Option.some.inj hm
    refine C_ret ?_
    try simp only [↓inBlock_ret, ↓then_ret]
    exact retQ rfl (Res.two Tryz.results51 rfl rfl) ⟨rfl, rfl⟩
  · rw [if_neg (nt hc2)] at hm
    refine C_skip_to (fun _ _ => rfl) ?_
    refine C_seq ?_
    refine C_region ?_
    refine V_y (Y_move rfl) rfl rfl rfl ?_
    refine V_y (Y_move rfl) rfl rfl rfl ?_
    refine V_y (Y_lenStr rfl Tryz.underlying9 rfl) rfl rfl rfl ?_
    refine V_y (Y_move rfl) rfl rfl rfl ?_
    refine V_y (Y_lenStr rfl Tryz.underlying9 rfl) rfl rfl rfl ?_
    refine V_y (Y_subI rfl rfl) rfl rfl rfl ?_
    obtain ⟨x3, hx3, hm⟩ := Option.bind_eq_some_iff.1 hm
    refine V_y (Y_sliceSH hx3 Tryz.underlying9 rfl rfl) rfl rfl rfl ?_
    refine V_y (Y_assign rfl) rfl rfl rfl ?_
    refine V_y (Y_assign rfl) rfl rfl rfl ?_
    refine V_to (fun _ _ => rfl) ?_
    obtain rfl := Option.some.inj hm
    refine C_ret ?_
    try simp only [↓inBlock_ret, ↓then_ret]
    exact retQ rfl (Res.two Tryz.results51 rfl rfl) ⟨rfl, rfl⟩

set_option maxRecDepth 4000 in
set_option maxHeartbeats 4000000 in
theorem strings_CutSuffix_c (w : World) (s : ByteArray) (suffix : ByteArray) {r : (ByteArray × Bool)} (hm : strings_CutSuffix s suffix = some r) : Ret Tryz.prog 11 #[.string s, .string suffix] w fun v w' => v = .tuple #[.string r.1, .bool r.2] ∧ w = w' := by
  unfold strings_CutSuffix at hm
  refine enter Tryz.func11 rfl Tryz.ntmps11 rfl ?_
  refine C_seq ?_
  refine C_region ?_
  refine V_y (Y_assign rfl) rfl rfl rfl ?_
  refine V_y (Y_assign rfl) rfl rfl rfl ?_
  refine V_to (fun _ _ => rfl) ?_
  refine C_seq ?_
  refine C_region ?_
  refine V_y (Y_move rfl) rfl rfl rfl ?_
  refine V_y (Y_move rfl) rfl rfl rfl ?_
  obtain ⟨x1, hx1, hm⟩ := Option.bind_eq_some_iff.1 hm
  refine V_call Tryz.call51 rfl rfl rfl rfl (internal_stringslite_CutSuffix_c w s suffix hx1) ?_
  rintro _ _ ⟨rfl, rfl⟩
  refine V_y (Y_extract rfl rfl) rfl rfl rfl ?_
  refine V_y (Y_extract rfl rfl) rfl rfl rfl ?_
  refine V_y (Y_assign rfl) rfl rfl rfl ?_
  refine V_y (Y_assign rfl) rfl rfl rfl ?_
  refine V_to (fun _ _ => rfl) ?_
  obtain rfl := Option.some.inj hm
  refine C_ret ?_
  try simp only [↓inBlock_ret, ↓then_ret]
  exact retQ rfl (Res.two Tryz.results11 rfl rfl) ⟨rfl, rfl⟩

def Tryz_strings_Trim_lay_ren : Go.Shelf.Ren := ⟨fun | 119 => 117 | 120 => 113 | 137 => 116 | 151 => 103 | 152 => 112 | 160 => 77 | 197 => 75 | 217 => 66 | 224 => 68 | 225 => 67 | 227 => 90 | 228 => 102 | 231 => 88 | 232 => 89 | 233 => 91 | 234 => 92 | 235 => 93 | 236 => 94 | 260 => 87 | 266 => 78 | 271 => 104 | n => n, fun | 0 => 0 | 1 => 1 | 2 => 2 | 3 => 3 | 4 => 4 | 5 => 5 | 6 => 6 | 7 => 7 | 8 => 8 | 9 => 9 | 10 => 10 | 11 => 11 | 12 => 12 | 13 => 13 | 14 => 14 | 15 => 15 | 16 => 16 | 17 => 17 | 18 => 18 | 19 => 19 | 20 => 20 | 21 => 21 | 22 => 163 | 23 => 161 | 24 => 38 | 25 => 39 | 27 => 155 | 28 => 75 | 31 => 36 | 34 => 80 | 37 => 176 | 40 => 220 | 41 => 206 | 46 => 167 | 47 => 217 | 51 => 172 | 52 => 219 | 53 => 190 | 54 => 198 | 55 => 165 | 59 => 28 | 60 => 29 | 61 => 37 | 63 => 207 | 64 => 218 | 69 => 193 | 74 => 156 | 75 => 157 | 76 => 158 | 77 => 159 | 80 => 223 | 81 => 229 | 83 => 160 | 84 => 182 | 85 => 177 | 86 => 178 | 101 => 73 | 103 => 169 | 104 => 27 | 105 => 170 | 106 => 171 | 108 => 196 | 111 => 216 | 113 => 150 | 114 => 166 | 115 => 184 | 116 => 185 | 117 => 186 | 118 => 187 | 119 => 202 | 122 => 183 | 123 => 188 | 124 => 189 | 127 => 209 | 128 => 168 | 131 => 146 | 137 => 203 | 138 => 204 | 139 => 205 | 143 => 210 | 144 => 211 | 145 => 212 | 146 => 173 | 150 => 162 | 151 => 174 | 164 => 242 | 167 => 175 | 168 => 179 | 169 => 180 | 170 => 181 | 171 => 197 | 172 => 199 | 173 => 200 | 174 => 201 | 175 => 191 | 176 => 192 | 209 => 194 | 210 => 195 | 211 => 213 | 212 => 214 | 213 => 215 | 214 => 208 | 222 => 144 | 232 => 221 | 233 => 222 | 238 => 224 | 239 => 225 | 240 => 226 | 241 => 227 | 242 => 228 | 243 => 230 | 244 => 231 | 245 => 232 | 246 => 233 | 247 => 234 | 248 => 235 | 249 => 236 | n => n, fun | 1 => 0 | 3 => 3 | 4 => 4 | 15 => 1 | 16 => 2 | 17 => 5 | 18 => 6 | 19 => 7 | n => n⟩
theorem Tryz_strings_Trim_lay : Go.Proofs.Lays.n160 Tryz.prog Tryz_strings_Trim_lay_ren := {
  mixed := by kernel_rfl,
  f119 := Tryz.func117.trans (congrArg some (by kernel_rfl)),
  f120 := Tryz.func113.trans (congrArg some (by kernel_rfl)),
  f137 := Tryz.func116.trans (congrArg some (by kernel_rfl)),
  f151 := Tryz.func103.trans (congrArg some (by kernel_rfl)),
  f152 := Tryz.func112.trans (congrArg some (by kernel_rfl)),
  f160 := Tryz.func77.trans (congrArg some (by kernel_rfl)),
  f197 := Tryz.func75.trans (congrArg some (by kernel_rfl)),
  f217 := Tryz.func66.trans (congrArg some (by kernel_rfl)),
  f224 := Tryz.func68.trans (congrArg some (by kernel_rfl)),
  f225 := Tryz.func67.trans (congrArg some (by kernel_rfl)),
  f227 := Tryz.func90.trans (congrArg some (by kernel_rfl)),
  f228 := Tryz.func102.trans (congrArg some (by kernel_rfl)),
  f231 := Tryz.func88.trans (congrArg some (by kernel_rfl)),
  f232 := Tryz.func89.trans (congrArg some (by kernel_rfl)),
  f233 := Tryz.func91.trans (congrArg some (by kernel_rfl)),
  f234 := Tryz.func92.trans (congrArg some (by kernel_rfl)),
  f235 := Tryz.func93.trans (congrArg some (by kernel_rfl)),
  f236 := Tryz.func94.trans (congrArg some (by kernel_rfl)),
  f260 := Tryz.func87.trans (congrArg some (by kernel_rfl)),
  f266 := Tryz.func78.trans (congrArg some (by kernel_rfl)),
  f271 := Tryz.func104.trans (congrArg some (by kernel_rfl)),
  t0 := Tryz.underlying0,
  a0 := Tryz.isAgg0,
  z0 := Tryz.sizeOf0,
  v0 := Tryz.zeroValue0,
  t3 := Tryz.underlying3,
  a3 := Tryz.isAgg3,
  z3 := Tryz.sizeOf3,
  v3 := Tryz.zeroValue3,
  t4 := Tryz.underlying4,
  a4 := Tryz.isAgg4,
  z4 := Tryz.sizeOf4,
  v4 := Tryz.zeroValue4,
  t5 := Tryz.underlying5,
  a5 := Tryz.isAgg5,
  z5 := Tryz.sizeOf5,
  v5 := Tryz.zeroValue5,
  t9 := Tryz.underlying9,
  a9 := Tryz.isAgg9,
  z9 := Tryz.sizeOf9,
  v9 := Tryz.zeroValue9,
  t21 := Tryz.underlying21,
  a21 := Tryz.isAgg21,
  z21 := Tryz.sizeOf21,
  v21 := Tryz.zeroValue21,
  t46 := Tryz.underlying167,
  a46 := Tryz.isAgg167,
  z46 := Tryz.sizeOf167,
  v46 := Tryz.zeroValue167,
  t105 := Tryz.underlying170,
  a105 := Tryz.isAgg170,
  z105 := Tryz.sizeOf170,
  v105 := Tryz.zeroValue170,
  t116 := Tryz.underlying185,
  a116 := Tryz.isAgg185,
  z116 := Tryz.sizeOf185,
  t117 := Tryz.underlying186,
  a117 := Tryz.isAgg186,
  z117 := Tryz.sizeOf186,
  v117 := Tryz.zeroValue186,
  t119 := Tryz.underlying202,
  a119 := Tryz.isAgg202,
  z119 := Tryz.sizeOf202,
  t124 := Tryz.underlying189,
  a124 := Tryz.isAgg189,
  z124 := Tryz.sizeOf189,
  v124 := Tryz.zeroValue189,
  t138 := Tryz.underlying204,
  a138 := Tryz.isAgg204,
  z138 := Tryz.sizeOf204,
  v138 := Tryz.zeroValue204,
  t139 := Tryz.underlying205,
  a139 := Tryz.isAgg205,
  z139 := Tryz.sizeOf205,
  v139 := Tryz.zeroValue205,
  g3 := by kernel_rfl,
  g4 := by kernel_rfl }
theorem strings_Trim_c (w : World) {A : Nat → Prop} (hA : ∀ b, w.heap.size ≤ b → A b) (s : ByteArray) (cutset : ByteArray) {r : ByteArray} (hm : strings_Trim s cutset = some r) : Ret Tryz.prog 77 #[.string s, .string cutset] w fun v w' => v = .string r ∧ Kp False w w' := by
  unfold strings_Trim at hm
  split at hm
  case isFalse => cases hm
  rename_i h
  obtain rfl := Option.some.inj hm
  refine Calls.mono (Go.Proofs.Any.strings_Trim_laid Tryz_strings_Trim_lay (by kernel_rfl) s cutset w h.1 h.2.1 (Go.Proofs.ascii_of_all h.2.2)) ?_
  rintro _ w' ⟨rfl, hk⟩
  exact ⟨_, rfl, rfl, .of hk⟩

set_option maxRecDepth 4000 in
set_option maxHeartbeats 4000000 in
theorem portref2_digits_c (w : World) {A : Nat → Prop} (hA : ∀ b, w.heap.size ≤ b → A b) (s : ByteArray) (most : Int) {r : Bool} (hm : portref2_digits s most = some r) : Ret Tryz.prog 64 #[.string s, .int .i64 most] w fun v w' => v = .bool r ∧ Kp False w w' := by
  unfold portref2_digits at hm
  refine enter Tryz.func64 rfl Tryz.ntmps64 rfl ?_
  have hA0 := hA
  have hB := Nat.le_refl w.heap.size
  have hK : Tr False w.heap.size A w A w := Tr.refl (Dw := False) hA
  have hH : Hp w.heap.size A w [] := Hp.nil
  refine C_seq ?_
  refine C_region ?_
  refine V_y (Y_assign rfl) rfl rfl rfl ?_
  refine V_to (fun _ _ => rfl) ?_
  refine C_seq ?_
  obtain ⟨s2, ho1, hm⟩ := Option.bind_eq_some_iff.1 hm
  refine C_cutG (ι := (Nat → Prop)) (fun (A7 : (Nat → Prop)) => [(4, .bool s2)]) (fun (A7 : (Nat → Prop)) => fun w' => Hp w.heap.size A7 w' ([]) ∧ Tr False w.heap.size A w A7 w') ?_ ?_
  · have hr3 : Tr False w.heap.size A w A w := Tr.refl (Dw := False) hA
    refine C_region ?_
    refine V_y (Y_move rfl) rfl rfl rfl ?_
    refine V_y (Y_sneq rfl rfl) rfl rfl rfl ?_
    refine V_y (Y_move rfl) rfl rfl rfl ?_
    rcases Bool.eq_false_or_eq_true (!(strEq s (⟨#[]⟩ : ByteArray))) with hc9 | hc9
    · rw [if_pos hc9] at ho1
      refine V_ge rfl rfl rfl hc9 ?_
      refine V_y (Y_move rfl) rfl rfl rfl ?_
      refine V_ge rfl rfl rfl hc9 ?_
      refine V_y (Y_lenStr rfl Tryz.underlying9 rfl) rfl rfl rfl ?_
      refine V_ge rfl rfl rfl hc9 ?_
      refine V_y (Y_move rfl) rfl rfl rfl ?_
      refine V_ge rfl rfl rfl hc9 ?_
      refine V_y (Y_leq rfl rfl) rfl rfl rfl ?_
      refine V_y (Y_pick_te rfl hc9 rfl) rfl rfl rfl ?_
      refine V_y (Y_move rfl) rfl rfl rfl ?_
      rcases Bool.eq_false_or_eq_true (decide ((s.size : Int) ≤ most)) with hc10 | hc10
      · rw [if_pos hc10] at ho1
        refine V_ge rfl rfl rfl hc10 ?_
        refine V_y (Y_move rfl) rfl rfl rfl ?_
        refine V_ge rfl rfl rfl hc10 ?_
        obtain ⟨x11, hx11, ho1⟩ := Option.bind_eq_some_iff.1 ho1
        refine V_call Tryz.call77 rfl rfl rfl rfl (strings_Trim_c w hA s (⟨#[48, 49, 50, 51, 52, 53, 54, 55, 56, 57]⟩ : ByteArray) hx11) ?_
        rintro _ w12 ⟨rfl, hk13⟩
        have ht14 := Kp.tr (Dw := False) hk13 hA hB
        replace hH := Hp.kp (Dw := False) hH hk13
        replace hK := Tr.trans (Dw := False) hK ht14
        replace hr3 := Tr.trans (Dw := False) hr3 ht14
        replace hB := Nat.le_trans hB ht14.ex.size
        replace hA := ht14.new
        refine V_ge rfl rfl rfl hc10 ?_
        refine V_y (Y_seql rfl rfl) rfl rfl rfl ?_
        refine V_y (Y_pick_te rfl hc10 rfl) rfl rfl rfl ?_
        refine V_y (Y_move rfl) rfl rfl rfl ?_
        rcases Bool.eq_false_or_eq_true (strEq x11 (⟨#[]⟩ : ByteArray)) with hc15 | hc15
        · rw [if_pos hc15] at ho1
          refine V_ge rfl rfl rfl hc15 ?_
          refine V_y (Y_move rfl) rfl rfl rfl ?_
          refine V_ge rfl rfl rfl hc15 ?_
          refine V_y (Y_lenStr rfl Tryz.underlying9 rfl) rfl rfl rfl ?_
          refine V_ge rfl rfl rfl hc15 ?_
          refine V_y (Y_eql rfl rfl) rfl rfl rfl ?_
          refine V_ge rfl rfl rfl hc15 ?_
          refine V_y (Y_move rfl) rfl rfl rfl ?_
          rcases Bool.eq_false_or_eq_true ((s.size : Int) == 1) with hc16 | hc16
          · rw [if_pos hc16] at ho1
            refine V_gn rfl rfl rfl hc16 rfl rfl rfl ?_
            refine V_gn rfl rfl rfl hc16 rfl rfl rfl ?_
            refine V_gn rfl rfl rfl hc16 rfl rfl rfl ?_
            refine V_ge rfl rfl rfl hc15 ?_
            refine V_y (Y_pick_te rfl hc16 rfl) rfl rfl rfl ?_
            refine V_y (Y_pick_te rfl hc15 rfl) rfl rfl rfl ?_
            refine V_y (Y_assign rfl) rfl rfl rfl ?_
            obtain rfl := Option.some.inj ho1
            refine V_end (fun a ha17 => ?_)
            exact ⟨A, ha17.sub ⟨rfl, trivial⟩, ⟨hH, hr3⟩⟩
          · rw [if_neg (nt hc16)] at ho1
            refine V_ge rfl rfl rfl hc16 ?_
            refine V_y (Y_move rfl) rfl rfl rfl ?_
            refine V_ge rfl rfl rfl hc16 ?_
            obtain ⟨x18, hx18, ho1⟩ := Option.bind_eq_some_iff.1 ho1
            refine V_y (Y_indexS hx18 Tryz.underlying9 rfl rfl) rfl rfl rfl ?_
            refine V_ge rfl rfl rfl hc16 ?_
            refine V_y (Y_neq rfl rfl) rfl rfl rfl ?_
            refine V_ge rfl rfl rfl hc15 ?_
            refine V_y (Y_pick_fe rfl hc16 rfl) rfl rfl rfl ?_
            refine V_y (Y_pick_te rfl hc15 rfl) rfl rfl rfl ?_
            refine V_y (Y_assign rfl) rfl rfl rfl ?_
            obtain rfl := Option.some.inj ho1
            refine V_end (fun a ha19 => ?_)
            exact ⟨A, ha19.sub ⟨rfl, trivial⟩, ⟨hH, hr3⟩⟩
        · rw [if_neg (nt hc15)] at ho1
          refine V_gn rfl rfl rfl hc15 rfl rfl rfl ?_
          refine V_gn rfl rfl rfl hc15 rfl rfl rfl ?_
          refine V_gn rfl rfl rfl hc15 rfl rfl rfl ?_
          refine V_gn rfl rfl rfl hc15 rfl rfl rfl ?_
          refine V_gu rfl rfl rfl rfl rfl ?_
          refine V_gu rfl rfl rfl rfl rfl ?_
          refine V_gu rfl rfl rfl rfl rfl ?_
          refine V_gn rfl rfl rfl hc15 rfl rfl rfl ?_
          refine V_y (Y_pick_fe rfl hc15 rfl) rfl rfl rfl ?_
          refine V_y (Y_assign rfl) rfl rfl rfl ?_
          obtain rfl := Option.some.inj ho1
          refine V_end (fun a ha20 => ?_)
          exact ⟨A, ha20.sub ⟨rfl, trivial⟩, ⟨hH, hr3⟩⟩
      · rw [if_neg (nt hc10)] at ho1
        refine V_gn rfl rfl rfl hc10 rfl rfl rfl ?_
        refine V_gn rfl rfl rfl hc10 rfl rfl rfl ?_
        refine V_gn rfl rfl rfl hc10 rfl rfl rfl ?_
        refine V_y (Y_pick_fe rfl hc10 rfl) rfl rfl rfl ?_
        refine V_y (Y_move rfl) rfl rfl rfl ?_
        rcases Bool.eq_false_or_eq_true (false) with hc21 | hc21
        · rw [if_pos hc21] at ho1
          refine V_ge rfl rfl rfl hc21 ?_
          refine V_y (Y_move rfl) rfl rfl rfl ?_
          refine V_ge rfl rfl rfl hc21 ?_
          refine V_y (Y_lenStr rfl Tryz.underlying9 rfl) rfl rfl rfl ?_
          refine V_ge rfl rfl rfl hc21 ?_
          refine V_y (Y_eql rfl rfl) rfl rfl rfl ?_
          refine V_ge rfl rfl rfl hc21 ?_
          refine V_y (Y_move rfl) rfl rfl rfl ?_
          rcases Bool.eq_false_or_eq_true ((s.size : Int) == 1) with hc22 | hc22
          · rw [if_pos hc22] at ho1
            refine V_gn rfl rfl rfl hc22 rfl rfl rfl ?_
            refine V_gn rfl rfl rfl hc22 rfl rfl rfl ?_
            refine V_gn rfl rfl rfl hc22 rfl rfl rfl ?_
            refine V_ge rfl rfl rfl hc21 ?_
            refine V_y (Y_pick_te rfl hc22 rfl) rfl rfl rfl ?_
            refine V_y (Y_pick_te rfl hc21 rfl) rfl rfl rfl ?_
            refine V_y (Y_assign rfl) rfl rfl rfl ?_
            obtain rfl := Option.some.inj ho1
            refine V_end (fun a ha23 => ?_)
            exact ⟨A, ha23.sub ⟨rfl, trivial⟩, ⟨hH, hr3⟩⟩
          · rw [if_neg (nt hc22)] at ho1
            refine V_ge rfl rfl rfl hc22 ?_
            refine V_y (Y_move rfl) rfl rfl rfl ?_
            refine V_ge rfl rfl rfl hc22 ?_
            obtain ⟨x24, hx24, ho1⟩ := Option.bind_eq_some_iff.1 ho1
            refine V_y (Y_indexS hx24 Tryz.underlying9 rfl rfl) rfl rfl rfl ?_
            refine V_ge rfl rfl rfl hc22 ?_
            refine V_y (Y_neq rfl rfl) rfl rfl rfl ?_
            refine V_ge rfl rfl rfl hc21 ?_
            refine V_y (Y_pick_fe rfl hc22 rfl) rfl rfl rfl ?_
            refine V_y (Y_pick_te rfl hc21 rfl) rfl rfl rfl ?_
            refine V_y (Y_assign rfl) rfl rfl rfl ?_
            obtain rfl := Option.some.inj ho1
            refine V_end (fun a ha25 => ?_)
            exact ⟨A, ha25.sub ⟨rfl, trivial⟩, ⟨hH, hr3⟩⟩
        · rw [if_neg (nt hc21)] at ho1
          refine V_gn rfl rfl rfl hc21 rfl rfl rfl ?_
          refine V_gn rfl rfl rfl hc21 rfl rfl rfl ?_
          refine V_gn rfl rfl rfl hc21 rfl rfl rfl ?_
          refine V_gn rfl rfl rfl hc21 rfl rfl rfl ?_
          refine V_gu rfl rfl rfl rfl rfl ?_
          refine V_gu rfl rfl rfl rfl rfl ?_
          refine V_gu rfl rfl rfl rfl rfl ?_
          refine V_gn rfl rfl rfl hc21 rfl rfl rfl ?_
          refine V_y (Y_pick_fe rfl hc21 rfl) rfl rfl rfl ?_
          refine V_y (Y_assign rfl) rfl rfl rfl ?_
          obtain rfl := Option.some.inj ho1
          refine V_end (fun a ha26 => ?_)
          exact ⟨A, ha26.sub ⟨rfl, trivial⟩, ⟨hH, hr3⟩⟩
    · rw [if_neg (nt hc9)] at ho1
      refine V_gn rfl rfl rfl hc9 rfl rfl rfl ?_
      refine V_gn rfl rfl rfl hc9 rfl rfl rfl ?_
      refine V_gn rfl rfl rfl hc9 rfl rfl rfl ?_
      refine V_gn rfl rfl rfl hc9 rfl rfl rfl ?_
      refine V_y (Y_pick_fe rfl hc9 rfl) rfl rfl rfl ?_
      refine V_y (Y_move rfl) rfl rfl rfl ?_
      rcases Bool.eq_false_or_eq_true (false) with hc27 | hc27
      · rw [if_pos hc27] at ho1
        refine V_ge rfl rfl rfl hc27 ?_
        refine V_y (Y_move rfl) rfl rfl rfl ?_
        refine V_ge rfl rfl rfl hc27 ?_
        obtain ⟨x28, hx28, ho1⟩ := Option.bind_eq_some_iff.1 ho1
        refine V_call Tryz.call77 rfl rfl rfl rfl (strings_Trim_c w hA s (⟨#[48, 49, 50, 51, 52, 53, 54, 55, 56, 57]⟩ : ByteArray) hx28) ?_
        rintro _ w29 ⟨rfl, hk30⟩
        have ht31 := Kp.tr (Dw := False) hk30 hA hB
        replace hH := Hp.kp (Dw := False) hH hk30
        replace hK := Tr.trans (Dw := False) hK ht31
        replace hr3 := Tr.trans (Dw := False) hr3 ht31
        replace hB := Nat.le_trans hB ht31.ex.size
        replace hA := ht31.new
        refine V_ge rfl rfl rfl hc27 ?_
        refine V_y (Y_seql rfl rfl) rfl rfl rfl ?_
        refine V_y (Y_pick_te rfl hc27 rfl) rfl rfl rfl ?_
        refine V_y (Y_move rfl) rfl rfl rfl ?_
        rcases Bool.eq_false_or_eq_true (strEq x28 (⟨#[]⟩ : ByteArray)) with hc32 | hc32
        · rw [if_pos hc32] at ho1
          refine V_ge rfl rfl rfl hc32 ?_
          refine V_y (Y_move rfl) rfl rfl rfl ?_
          refine V_ge rfl rfl rfl hc32 ?_
          refine V_y (Y_lenStr rfl Tryz.underlying9 rfl) rfl rfl rfl ?_
          refine V_ge rfl rfl rfl hc32 ?_
          refine V_y (Y_eql rfl rfl) rfl rfl rfl ?_
          refine V_ge rfl rfl rfl hc32 ?_
          refine V_y (Y_move rfl) rfl rfl rfl ?_
          rcases Bool.eq_false_or_eq_true ((s.size : Int) == 1) with hc33 | hc33
          · rw [if_pos hc33] at ho1
            refine V_gn rfl rfl rfl hc33 rfl rfl rfl ?_
            refine V_gn rfl rfl rfl hc33 rfl rfl rfl ?_
            refine V_gn rfl rfl rfl hc33 rfl rfl rfl ?_
            refine V_ge rfl rfl rfl hc32 ?_
            refine V_y (Y_pick_te rfl hc33 rfl) rfl rfl rfl ?_
            refine V_y (Y_pick_te rfl hc32 rfl) rfl rfl rfl ?_
            refine V_y (Y_assign rfl) rfl rfl rfl ?_
            obtain rfl := Option.some.inj ho1
            refine V_end (fun a ha34 => ?_)
            exact ⟨A, ha34.sub ⟨rfl, trivial⟩, ⟨hH, hr3⟩⟩
          · rw [if_neg (nt hc33)] at ho1
            refine V_ge rfl rfl rfl hc33 ?_
            refine V_y (Y_move rfl) rfl rfl rfl ?_
            refine V_ge rfl rfl rfl hc33 ?_
            obtain ⟨x35, hx35, ho1⟩ := Option.bind_eq_some_iff.1 ho1
            refine V_y (Y_indexS hx35 Tryz.underlying9 rfl rfl) rfl rfl rfl ?_
            refine V_ge rfl rfl rfl hc33 ?_
            refine V_y (Y_neq rfl rfl) rfl rfl rfl ?_
            refine V_ge rfl rfl rfl hc32 ?_
            refine V_y (Y_pick_fe rfl hc33 rfl) rfl rfl rfl ?_
            refine V_y (Y_pick_te rfl hc32 rfl) rfl rfl rfl ?_
            refine V_y (Y_assign rfl) rfl rfl rfl ?_
            obtain rfl := Option.some.inj ho1
            refine V_end (fun a ha36 => ?_)
            exact ⟨A, ha36.sub ⟨rfl, trivial⟩, ⟨hH, hr3⟩⟩
        · rw [if_neg (nt hc32)] at ho1
          refine V_gn rfl rfl rfl hc32 rfl rfl rfl ?_
          refine V_gn rfl rfl rfl hc32 rfl rfl rfl ?_
          refine V_gn rfl rfl rfl hc32 rfl rfl rfl ?_
          refine V_gn rfl rfl rfl hc32 rfl rfl rfl ?_
          refine V_gu rfl rfl rfl rfl rfl ?_
          refine V_gu rfl rfl rfl rfl rfl ?_
          refine V_gu rfl rfl rfl rfl rfl ?_
          refine V_gn rfl rfl rfl hc32 rfl rfl rfl ?_
          refine V_y (Y_pick_fe rfl hc32 rfl) rfl rfl rfl ?_
          refine V_y (Y_assign rfl) rfl rfl rfl ?_
          obtain rfl := Option.some.inj ho1
          refine V_end (fun a ha37 => ?_)
          exact ⟨A, ha37.sub ⟨rfl, trivial⟩, ⟨hH, hr3⟩⟩
      · rw [if_neg (nt hc27)] at ho1
        refine V_gn rfl rfl rfl hc27 rfl rfl rfl ?_
        refine V_gn rfl rfl rfl hc27 rfl rfl rfl ?_
        refine V_gn rfl rfl rfl hc27 rfl rfl rfl ?_
        refine V_y (Y_pick_fe rfl hc27 rfl) rfl rfl rfl ?_
        refine V_y (Y_move rfl) rfl rfl rfl ?_
        rcases Bool.eq_false_or_eq_true (false) with hc38 | hc38
        · rw [if_pos hc38] at ho1
          refine V_ge rfl rfl rfl hc38 ?_
          refine V_y (Y_move rfl) rfl rfl rfl ?_
          refine V_ge rfl rfl rfl hc38 ?_
          refine V_y (Y_lenStr rfl Tryz.underlying9 rfl) rfl rfl rfl ?_
          refine V_ge rfl rfl rfl hc38 ?_
          refine V_y (Y_eql rfl rfl) rfl rfl rfl ?_
          refine V_ge rfl rfl rfl hc38 ?_
          refine V_y (Y_move rfl) rfl rfl rfl ?_
          rcases Bool.eq_false_or_eq_true ((s.size : Int) == 1) with hc39 | hc39
          · rw [if_pos hc39] at ho1
            refine V_gn rfl rfl rfl hc39 rfl rfl rfl ?_
            refine V_gn rfl rfl rfl hc39 rfl rfl rfl ?_
            refine V_gn rfl rfl rfl hc39 rfl rfl rfl ?_
            refine V_ge rfl rfl rfl hc38 ?_
            refine V_y (Y_pick_te rfl hc39 rfl) rfl rfl rfl ?_
            refine V_y (Y_pick_te rfl hc38 rfl) rfl rfl rfl ?_
            refine V_y (Y_assign rfl) rfl rfl rfl ?_
            obtain rfl := Option.some.inj ho1
            refine V_end (fun a ha40 => ?_)
            exact ⟨A, ha40.sub ⟨rfl, trivial⟩, ⟨hH, hr3⟩⟩
          · rw [if_neg (nt hc39)] at ho1
            refine V_ge rfl rfl rfl hc39 ?_
            refine V_y (Y_move rfl) rfl rfl rfl ?_
            refine V_ge rfl rfl rfl hc39 ?_
            obtain ⟨x41, hx41, ho1⟩ := Option.bind_eq_some_iff.1 ho1
            refine V_y (Y_indexS hx41 Tryz.underlying9 rfl rfl) rfl rfl rfl ?_
            refine V_ge rfl rfl rfl hc39 ?_
            refine V_y (Y_neq rfl rfl) rfl rfl rfl ?_
            refine V_ge rfl rfl rfl hc38 ?_
            refine V_y (Y_pick_fe rfl hc39 rfl) rfl rfl rfl ?_
            refine V_y (Y_pick_te rfl hc38 rfl) rfl rfl rfl ?_
            refine V_y (Y_assign rfl) rfl rfl rfl ?_
            obtain rfl := Option.some.inj ho1
            refine V_end (fun a ha42 => ?_)
            exact ⟨A, ha42.sub ⟨rfl, trivial⟩, ⟨hH, hr3⟩⟩
        · rw [if_neg (nt hc38)] at ho1
          refine V_gn rfl rfl rfl hc38 rfl rfl rfl ?_
          refine V_gn rfl rfl rfl hc38 rfl rfl rfl ?_
          refine V_gn rfl rfl rfl hc38 rfl rfl rfl ?_
          refine V_gn rfl rfl rfl hc38 rfl rfl rfl ?_
          refine V_gu rfl rfl rfl rfl rfl ?_
          refine V_gu rfl rfl rfl rfl rfl ?_
          refine V_gu rfl rfl rfl rfl rfl ?_
          refine V_gn rfl rfl rfl hc38 rfl rfl rfl ?_
          refine V_y (Y_pick_fe rfl hc38 rfl) rfl rfl rfl ?_
          refine V_y (Y_assign rfl) rfl rfl rfl ?_
          obtain rfl := Option.some.inj ho1
          refine V_end (fun a ha43 => ?_)
          exact ⟨A, ha43.sub ⟨rfl, trivial⟩, ⟨hH, hr3⟩⟩
  rintro A7 w4 ⟨hH8, hk5⟩ a ha6
  replace hK := Tr.trans (Dw := False) hK hk5
  replace hB := Nat.le_trans hB hk5.ex.size
  replace hA := hk5.new
  replace hH : Hp w.heap.size A7 w4 ([]) := hH8
  refine C_at (n := ⟨28, [], none⟩) (fun _ _ => rfl) ?_ ha6
  obtain rfl := Option.some.inj hm
  refine C_ret ?_
  try simp only [↓inBlock_ret, ↓then_ret]
  exact retQ rfl (Res.one Tryz.results64 rfl) ⟨rfl, hK.kp⟩

set_option maxRecDepth 4000 in
set_option maxHeartbeats 4000000 in
theorem portref2_number_c (w : World) {A : Nat → Prop} (hA : ∀ b, w.heap.size ≤ b → A b) (hT : Fz Tryz_FR A w) (s : ByteArray) (most : Int) {r : (Int × Bool)} (hm : portref2_number s most = some r) : Ret Tryz.prog 52 #[.string s, .int .i64 most] w fun v w' => v = .tuple #[.int .i64 r.1, .bool r.2] ∧ Kp False w w' := by
  unfold portref2_number at hm
  refine enter Tryz.func52 rfl Tryz.ntmps52 rfl ?_
  have hA0 := hA
  have hB := Nat.le_refl w.heap.size
  have hK : Tr False w.heap.size A w A w := Tr.refl (Dw := False) hA
  have hH : Hp w.heap.size A w [] := Hp.nil
  refine C_seq ?_
  refine C_region ?_
  refine V_y (Y_assign rfl) rfl rfl rfl ?_
  refine V_y (Y_assign rfl) rfl rfl rfl ?_
  refine V_to (fun _ _ => rfl) ?_
  refine C_seq ?_
  refine C_region ?_
  refine V_y (Y_move rfl) rfl rfl rfl ?_
  obtain ⟨x1, hx1, hm⟩ := Option.bind_eq_some_iff.1 hm
  refine V_call Tryz.call58 rfl rfl rfl rfl (strings_TrimPrefix_c w s (⟨#[45]⟩ : ByteArray) hx1) ?_
  rintro _ _ ⟨rfl, rfl⟩
  refine V_y (Y_assign rfl) rfl rfl rfl ?_
  refine V_to (fun _ _ => rfl) ?_
  refine C_seq ?_
  refine C_seq ?_
  refine C_region ?_
  refine V_y (Y_move rfl) rfl rfl rfl ?_
  refine V_y (Y_move rfl) rfl rfl rfl ?_
  obtain ⟨x2, hx2, hm⟩ := Option.bind_eq_some_iff.1 hm
  refine V_call Tryz.call64 rfl rfl rfl rfl (portref2_digits_c w hA x1 most hx2) ?_
  rintro _ w3 ⟨rfl, hk4⟩
  have ht5 := Kp.tr (Dw := False) hk4 hA hB
  replace hH := Hp.kp (Dw := False) hH hk4
  replace hK := Tr.trans (Dw := False) hK ht5
  replace hB := Nat.le_trans hB ht5.ex.size
  replace hA := ht5.new
  refine V_y (Y_not rfl) rfl rfl rfl ?_
  refine V_y (Y_move rfl) rfl rfl rfl ?_
  refine V_cut 7 (fun _ : Unit => [(0, .string s), (22, .bool ((!x2) || ((strEq x1 (⟨#[48]⟩ : ByteArray)) && (!(strEq s (⟨#[48]⟩ : ByteArray))))))]) (fun _ w' => w3 = w') ?_ ?_
  · simp only [List.take, List.drop]
    rcases Bool.eq_false_or_eq_true (!x2) with hc6 | hc6
    · refine V_gn rfl rfl rfl hc6 rfl rfl rfl ?_
      refine V_gn rfl rfl rfl hc6 rfl rfl rfl ?_
      refine V_gn rfl rfl rfl hc6 rfl rfl rfl ?_
      refine V_gu rfl rfl rfl rfl rfl ?_
      refine V_gu rfl rfl rfl rfl rfl ?_
      refine V_gn rfl rfl rfl hc6 rfl rfl rfl ?_
      refine V_y (Y_pick_te rfl hc6 rfl) rfl rfl rfl ?_
      exact V_end fun a ha => ⟨(), ha.sub ⟨rfl, (by rw [hc6]; rfl), trivial⟩, rfl⟩
    · refine V_ge rfl rfl rfl hc6 ?_
      refine V_y (Y_move rfl) rfl rfl rfl ?_
      refine V_ge rfl rfl rfl hc6 ?_
      refine V_y (Y_seql rfl rfl) rfl rfl rfl ?_
      refine V_ge rfl rfl rfl hc6 ?_
      refine V_y (Y_move rfl) rfl rfl rfl ?_
      refine V_cut 3 (fun _ : Unit => [(0, .string s), (15, .bool (!x2)), (21, .bool ((strEq x1 (⟨#[48]⟩ : ByteArray)) && (!(strEq s (⟨#[48]⟩ : ByteArray)))))]) (fun _ w' => w3 = w') ?_ ?_
      · simp only [List.take, List.drop]
        rcases Bool.eq_false_or_eq_true (strEq x1 (⟨#[48]⟩ : ByteArray)) with hc8 | hc8
        · refine V_ge rfl rfl rfl hc8 ?_
          refine V_y (Y_move rfl) rfl rfl rfl ?_
          refine V_ge rfl rfl rfl hc8 ?_
          refine V_y (Y_sneq rfl rfl) rfl rfl rfl ?_
          refine V_ge rfl rfl rfl hc6 ?_
          refine V_y (Y_pick_te rfl hc8 rfl) rfl rfl rfl ?_
          exact V_end fun a ha => ⟨(), ha.sub ⟨rfl, rfl, (by rw [hc8]; rfl), trivial⟩, rfl⟩
        · refine V_gn rfl rfl rfl hc8 rfl rfl rfl ?_
          refine V_gn rfl rfl rfl hc8 rfl rfl rfl ?_
          refine V_ge rfl rfl rfl hc6 ?_
          refine V_y (Y_pick_fe rfl hc8 rfl) rfl rfl rfl ?_
          exact V_end fun a ha => ⟨(), ha.sub ⟨rfl, rfl, (by rw [hc8]; rfl), trivial⟩, rfl⟩
      simp only [List.take, List.drop]
      rintro _ _ rfl
      refine V_y (Y_pick_fe rfl hc6 rfl) rfl rfl rfl ?_
      exact V_end fun a ha => ⟨(), ha.sub ⟨rfl, (by rw [hc6]; rfl), trivial⟩, rfl⟩
  simp only [List.take, List.drop]
  rintro _ _ rfl
  refine V_to (fun _ _ => rfl) ?_
  refine C_cond rfl (fun hc10 => ?_) (fun hc10 => ?_)
  · rw [if_pos hc10] at hm
    refine C_seq ?_
    refine C_region ?_
    refine V_y (Y_assign rfl) rfl rfl rfl ?_
    refine V_y (Y_assign rfl) rfl rfl rfl ?_
    refine V_to (fun _ _ => rfl) ?_
    obtain rfl := Option.some.inj hm
    refine C_ret ?_
    try simp only [↓inBlock_ret, ↓then_ret]
    exact retQ rfl (Res.two Tryz.results52 rfl rfl) ⟨rfl, hK.kp⟩
  · rw [if_neg (nt hc10)] at hm
    refine C_skip_to (fun _ _ => rfl) ?_
    refine C_seq ?_
    refine C_region ?_
    refine V_y (Y_move rfl) rfl rfl rfl ?_
    obtain ⟨x11, hx11, hm⟩ := Option.bind_eq_some_iff.1 hm
    refine V_call Tryz.call56 rfl rfl rfl rfl (strconv_Atoi_c w3 hA ⟨((Fz.tr (Dw := False) hT hK)).2.2.1, ((Fz.tr (Dw := False) hT hK)).2.2.2⟩ s hx11) ?_
    rintro _ w14 ⟨v12, rfl, h13, hk15⟩
    have ht16 := Kp.tr (Dw := False) hk15 hA hB
    replace hH := Hp.kp (Dw := False) hH hk15
    replace hK := Tr.trans (Dw := False) hK ht16
    replace hB := Nat.le_trans hB ht16.ex.size
    replace hA := ht16.new
    refine V_y (Y_move rfl) rfl rfl rfl ?_
    refine V_y (Y_extract rfl rfl) rfl rfl rfl ?_
    refine V_y (Y_extract rfl rfl) rfl rfl rfl ?_
    refine V_y (Y_assign rfl) rfl rfl rfl ?_
    refine V_y (Y_assign rfl) rfl rfl rfl ?_
    refine V_to (fun _ _ => rfl) ?_
    refine C_seq ?_
    refine C_region_q (Dw := False) Tryz_mixed (by kernel_rfl) ?_
    refine VQ_y (fun w' hw' => Y_move rfl) rfl rfl rfl ?_
    refine VQ_y (fun w' hw' => Y_move rfl) rfl rfl rfl ?_
    refine VQ_y (fun w' hw' => Y_eqlER h13 Tryz.underlying157 rfl) rfl rfl rfl ?_
    refine VQ_y (fun w' hw' => Y_assign rfl) rfl rfl rfl ?_
    refine VQ_y (fun w' hw' => Y_assign rfl) rfl rfl rfl ?_
    refine VQ_to (fun _ _ => rfl) (fun w17 hk18 => ?_)
    have ht19 := Kp.tr (Dw := False) hk18 hA hB
    replace hH := Hp.kp (Dw := False) hH hk18
    replace hK := Tr.trans (Dw := False) hK ht19
    replace hB := Nat.le_trans hB ht19.ex.size
    replace hA := ht19.new
    obtain rfl := Option.some.inj hm
    refine C_ret ?_
    try simp only [↓inBlock_ret, ↓then_ret]
    exact retQ rfl (Res.two Tryz.results52 rfl rfl) ⟨rfl, hK.kp⟩

set_option maxRecDepth 4000 in
set_option maxHeartbeats 4000000 in
theorem portref2_readPerson_c (w : World) {A : Nat → Prop} (hA : ∀ b, w.heap.size ≤ b → A b) (hT : Fz Tryz_FR A w) (t : ByteArray) {r : (route_Person × Bool)} (hm : portref2_readPerson t = some r) : Ret Tryz.prog 12 #[.string t] w fun v w' => ∃ s0, v = .tuple #[.agg #[.int .i64 r.1.no, .int .i64 r.1.capacity, .int .i64 r.1.calendar, s0], .bool r.2] ∧ Sl A w' s0 r.1.skills ∧ Kp False w w' := by
  unfold portref2_readPerson at hm
  refine enter Tryz.func12 rfl Tryz.ntmps12 rfl ?_
  have hA0 := hA
  have hB := Nat.le_refl w.heap.size
  have hK : Tr False w.heap.size A w A w := Tr.refl (Dw := False) hA
  have hH : Hp w.heap.size A w [] := Hp.nil
  refine C_seq ?_
  refine C_region ?_
  refine V_allocH (Dw := False) (B := w.heap.size) hH Tryz.zeroValue32 hB hA rfl ?_
  intro b1 w2 A3 hH4 ht5
  replace hK := Tr.trans (Dw := False) hK ht5
  replace hB := Nat.le_trans hB ht5.ex.size
  replace hA := ht5.new
  replace hH : Hp w.heap.size A3 w2 (obC b1 [.int .i64 0, .int .i64 0, .int .i64 0, .slice none 0 0] 32 :: []) := hH4
  refine V_y (Y_assign rfl) rfl rfl rfl ?_
  refine V_to (fun _ _ => rfl) ?_
  refine C_seq ?_
  refine C_region ?_
  refine V_y (Y_move rfl) rfl rfl rfl ?_
  obtain ⟨x6, hx6, hm⟩ := Option.bind_eq_some_iff.1 hm
  refine V_call Tryz.call46 rfl rfl rfl rfl (strings_Split_c (Dw := False) w2 hA (Fz.tr (Dw := False) hT hK) t (⟨#[32]⟩ : ByteArray) hx6) ?_
  rintro v7 w9 ⟨_, rfl, h8, hk10⟩
  have ht11 := Kp.tr (Dw := False) hk10 hA hB
  replace hH := Hp.kp (Dw := False) hH hk10
  replace hK := Tr.trans (Dw := False) hK ht11
  replace hB := Nat.le_trans hB ht11.ex.size
  replace hA := ht11.new
  refine V_y (Y_assign rfl) rfl rfl rfl ?_
  refine V_to (fun _ _ => rfl) ?_
  refine C_seq ?_
  refine C_seq ?_
  refine C_region ?_
  refine V_y (Y_move rfl) rfl rfl rfl ?_
  refine V_y (Y_lenSl h8 rfl Tryz.underlying36 rfl) rfl rfl rfl ?_
  refine V_y (Y_lss rfl rfl) rfl rfl rfl ?_
  refine V_y (Y_move rfl) rfl rfl rfl ?_
  obtain ⟨s13, hs13, hm⟩ := Option.bind_eq_some_iff.1 hm
  refine V_cut 5 (fun _ : Unit => [(2, .pointer (some ⟨b1, 0, none⟩)), (4, v7), (23, .bool s13)]) (fun _ w' => w9 = w') ?_ ?_
  · simp only [List.take, List.drop]
    rcases Bool.eq_false_or_eq_true (decide ((x6.length : Int) < 4)) with hc12 | hc12
    · rw [if_pos hc12] at hs13
      refine V_gn rfl rfl rfl hc12 rfl rfl rfl ?_
      refine V_gn rfl rfl rfl hc12 rfl rfl rfl ?_
      refine V_gn rfl rfl rfl hc12 rfl rfl rfl ?_
      refine V_gn rfl rfl rfl hc12 rfl rfl rfl ?_
      refine V_y (Y_pick_te rfl hc12 rfl) rfl rfl rfl ?_
      obtain rfl := Option.some.inj hs13
      exact V_end fun a ha => ⟨(), ha.sub ⟨rfl, rfl, rfl, trivial⟩, rfl⟩
    · rw [if_neg (nt hc12)] at hs13
      refine V_ge rfl rfl rfl hc12 ?_
      refine V_y (Y_move rfl) rfl rfl rfl ?_
      refine V_ge rfl rfl rfl hc12 ?_
      obtain ⟨x14, hx14, hs13⟩ := Option.bind_eq_some_iff.1 hs13
      refine V_indexAddr h8 hx14 Tryz.underlying36 Tryz.sizeOf9 rfl rfl rfl ?_
      intro b15 o16 h17
      refine V_ge rfl rfl rfl hc12 ?_
      refine V_y (Y_load (El.str h17) Tryz.isAgg9 rfl) rfl rfl rfl ?_
      refine V_ge rfl rfl rfl hc12 ?_
      refine V_y (Y_sneq rfl rfl) rfl rfl rfl ?_
      refine V_y (Y_pick_fe rfl hc12 rfl) rfl rfl rfl ?_
      obtain rfl := Option.some.inj hs13
      exact V_end fun a ha => ⟨(), ha.sub ⟨rfl, rfl, rfl, trivial⟩, rfl⟩
  simp only [List.take, List.drop]
  rintro _ _ rfl
  refine V_y (Y_move rfl) rfl rfl rfl ?_
  refine V_cut 5 (fun _ : Unit => [(2, .pointer (some ⟨b1, 0, none⟩)), (4, v7), (29, .bool (s13 || ((Int.tmod (x6.length : Int) 2) != 0)))]) (fun _ w' => w9 = w') ?_ ?_
  · simp only [List.take, List.drop]
    rcases Bool.eq_false_or_eq_true (s13) with hc18 | hc18
    · refine V_gn rfl rfl rfl hc18 rfl rfl rfl ?_
      refine V_gn rfl rfl rfl hc18 rfl rfl rfl ?_
      refine V_gn rfl rfl rfl hc18 rfl rfl rfl ?_
      refine V_gn rfl rfl rfl hc18 rfl rfl rfl ?_
      refine V_y (Y_pick_te rfl hc18 rfl) rfl rfl rfl ?_
      exact V_end fun a ha => ⟨(), ha.sub ⟨rfl, rfl, (by rw [hc18]; rfl), trivial⟩, rfl⟩
    · refine V_ge rfl rfl rfl hc18 ?_
      refine V_y (Y_move rfl) rfl rfl rfl ?_
      refine V_ge rfl rfl rfl hc18 ?_
      refine V_y (Y_lenSl h8 rfl Tryz.underlying36 rfl) rfl rfl rfl ?_
      refine V_ge rfl rfl rfl hc18 ?_
      refine V_y (Y_rem (by rw [rem, if_neg (by decide)]) rfl rfl) rfl rfl rfl ?_
      refine V_ge rfl rfl rfl hc18 ?_
      refine V_y (Y_neq rfl rfl) rfl rfl rfl ?_
      refine V_y (Y_pick_fe rfl hc18 rfl) rfl rfl rfl ?_
      exact V_end fun a ha => ⟨(), ha.sub ⟨rfl, rfl, (by rw [hc18]; rfl), trivial⟩, rfl⟩
  simp only [List.take, List.drop]
  rintro _ _ rfl
  refine V_to (fun _ _ => rfl) ?_
  refine C_cond rfl (fun hc20 => ?_) (fun hc20 => ?_)
  · rw [if_pos hc20] at hm
    refine C_seq ?_
    refine C_region ?_
    refine V_y (Y_build Tryz.underlying32 Tryz.zeroValue32 (Tryz_places32 _ Tryz.underlying32) rfl (by with_unfolding_all rfl)) rfl rfl rfl ?_
    refine V_storeC (Dw := False) (off := 0) (ds := [.int .i64 0, .int .i64 0, .int .i64 0, .slice none 0 0]) hH (i := 0) rfl Tryz.sizeOf32 rfl (Nat.le_of_ble_eq_true rfl) (by exact (List.forall_mem_cons.2 ⟨rfl, (List.forall_mem_cons.2 ⟨rfl, (List.forall_mem_cons.2 ⟨rfl, (List.forall_mem_cons.2 ⟨rfl, (fun _ h => nomatch h)⟩)⟩)⟩)⟩)) rfl hB hA rfl rfl ?_
    intro w21 hH22 ht23
    replace h8 := Sl.tr (Dw := False) h8 ht23
    replace hK := Tr.trans (Dw := False) hK ht23
    replace hB := Nat.le_trans hB ht23.ex.size
    replace hA := ht23.new
    replace hH : Hp w.heap.size A3 w21 (obC b1 [.int .i64 0, .int .i64 0, .int .i64 0, .slice none 0 0] 32 :: []) := hH22
    refine V_y (Y_assign rfl) rfl rfl rfl ?_
    refine V_to (fun _ _ => rfl) ?_
    obtain rfl := Option.some.inj hm
    refine C_ret ?_
    try simp only [↓inBlock_ret, ↓then_ret]
    exact retQ rfl (Res.l2 Tryz.results12 (RL.cell rfl (loadVar_agg (Hp.part (off := 0) (n := 4) (ds := [.int .i64 0, .int .i64 0, .int .i64 0, .slice none 0 0]) hH (i := 0) rfl rfl) Tryz.isAgg32 Tryz.sizeOf32)) (RL.tmp rfl)) ⟨.slice none 0 0, rfl, Sl.nil, hK.kp⟩
  · rw [if_neg (nt hc20)] at hm
    refine C_skip_to (fun _ _ => rfl) ?_
    refine C_seq ?_
    refine C_region ?_
    refine V_allocH (Dw := False) (B := w.heap.size) hH Tryz.zeroValue32 hB hA rfl ?_
    intro b24 w25 A26 hH27 ht28
    replace h8 := Sl.tr (Dw := False) h8 ht28
    replace hK := Tr.trans (Dw := False) hK ht28
    replace hB := Nat.le_trans hB ht28.ex.size
    replace hA := ht28.new
    replace hH : Hp w.heap.size A26 w25 (obC b24 [.int .i64 0, .int .i64 0, .int .i64 0, .slice none 0 0] 32 :: obC b1 [.int .i64 0, .int .i64 0, .int .i64 0, .slice none 0 0] 32 :: []) := hH27
    refine V_to (fun _ _ => rfl) ?_
    refine C_seq ?_
    refine C_seq ?_
    refine C_region ?_
    refine V_y (Y_fieldAddrC (off2 := 0) Tryz.underlying32 rfl Tryz.sizeOf3 (by decide) rfl rfl) rfl rfl rfl ?_
    refine V_y (Y_fieldAddrC (off2 := 1) Tryz.underlying32 rfl Tryz.sizeOf3 (by decide) rfl rfl) rfl rfl rfl ?_
    refine V_y (Y_fieldAddrC (off2 := 2) Tryz.underlying32 rfl Tryz.sizeOf3 (by decide) rfl rfl) rfl rfl rfl ?_
    refine V_buildSlice (Dw := False) (cells := #[.pointer (some ⟨b24, 0, none⟩), .pointer (some ⟨b24, 1, none⟩), .pointer (some ⟨b24, 2, none⟩)]) (l := ([⟨.pointer (some ⟨b24, 0, none⟩), rfl⟩, ⟨.pointer (some ⟨b24, 1, none⟩), rfl⟩, ⟨.pointer (some ⟨b24, 2, none⟩), rfl⟩] : List Sv)) (len := 3) Tryz.underlying145 Tryz.sizeOf144 Tryz.zeroValue144 rfl (by kernel_rfl) (show (3 * 1 : Nat) ≠ 0 by decide) (show (3 * 1 : Nat) ≤ 2 ^ 24 by decide) hA ⟨[.pointer (some ⟨b24, 0, none⟩)], _, rfl, rfl, [.pointer (some ⟨b24, 1, none⟩)], _, rfl, rfl, [.pointer (some ⟨b24, 2, none⟩)], _, rfl, rfl, rfl⟩ rfl rfl ?_
    intro v29 w30 hk32 h31
    have ht33 := Kp.tr (Dw := False) hk32 hA hB
    replace hH := Hp.kp (Dw := False) hH hk32
    replace h8 := Sl.tr (Dw := False) h8 ht33
    replace hK := Tr.trans (Dw := False) hK ht33
    replace hB := Nat.le_trans hB ht33.ex.size
    replace hA := ht33.new
    refine V_y (Y_lenSl h31 rfl Tryz.underlying145 rfl) rfl rfl rfl ?_
    refine V_y (Y_move rfl) rfl rfl rfl ?_
    refine V_to (fun _ _ => rfl) ?_
    replace hH : Hp w.heap.size A26 w30 (obS (α := route_Skill) 102 (.slice none 0 0) ([] : (List route_Skill)) :: obC b24 [.int .i64 0, .int .i64 0, .int .i64 0, .slice none 0 0] 32 :: obC b1 [.int .i64 0, .int .i64 0, .int .i64 0, .slice none 0 0] 32 :: []) := Hp.addNil (α := route_Skill) (e := 102) hH
    have hn62 : ([(), (), ()] : List Unit).length ≤ maxLen := by decide
    obtain ⟨o34, ho34, hm⟩ := Option.bind_eq_some_iff.1 hm
    refine C_cutG (ι := ((route_Person × route_Person) × Value × Value × (Nat → Prop))) (fun ⟨s35, v41, v43, A45⟩ => [(2, .pointer (some ⟨b1, 0, none⟩)), (4, v7), (5, .pointer (some ⟨b24, 0, none⟩))]) (fun ⟨s35, v41, v43, A45⟩ => fun w' => o34 = .fin s35 ∧ Sl A45 w' v43 s35.2.skills ∧ Hp w.heap.size A45 w' (obS (α := route_Skill) 102 v41 s35.1.skills :: obC b24 [.int .i64 s35.1.no, .int .i64 s35.1.capacity, .int .i64 s35.1.calendar, v41] 32 :: obC b1 [.int .i64 s35.2.no, .int .i64 s35.2.capacity, .int .i64 s35.2.calendar, v43] 32 :: []) ∧ Tr False w.heap.size A26 w30 A45 w') ?_ ?_
    · refine C_block ?_
      refine C_range ho34 (fun k37 s47 a w' => ∃ i : (Value × Value × (Nat → Prop)), Has ⟨94, [], none⟩ a ([(2, .pointer (some ⟨b1, 0, none⟩)), (4, v7), (5, .pointer (some ⟨b24, 0, none⟩)), (34, v29), (35, .int .i64 (([(), (), ()] : List Unit).length : Int)), (36, .int .i64 (k37 : Int))]) ∧ Sl i.2.2 w' i.2.1 s47.2.skills ∧ Hp w.heap.size i.2.2 w' (obS (α := route_Skill) 102 i.1 s47.1.skills :: obC b24 [.int .i64 s47.1.no, .int .i64 s47.1.capacity, .int .i64 s47.1.calendar, i.1] 32 :: obC b1 [.int .i64 s47.2.no, .int .i64 s47.2.capacity, .int .i64 s47.2.calendar, i.2.1] 32 :: []) ∧ Tr False w.heap.size A26 w30 i.2.2 w') (fun a ha => ⟨(.slice none 0 0, .slice none 0 0, A26), ha.sub ⟨rfl, rfl, rfl, rfl, rfl, rfl, trivial⟩, ⟨Sl.nil, hH, Tr.refl (Dw := False) hA⟩⟩) ?_
      rintro K k37 s47 a w48 ⟨⟨v49, v51, A53⟩, ha128, h52, hH54, hr36⟩ hle58 K61 h60
      refine C_of ?_ ha128
      replace h8 := Sl.tr (Dw := False) h8 hr36
      replace h31 := Sl.tr (Dw := False) h31 hr36
      replace hK := Tr.trans (Dw := False) hK hr36
      replace hB := Nat.le_trans hB hr36.ex.size
      replace hA := hr36.new
      replace hH : Hp w.heap.size A53 w48 (obS (α := route_Skill) 102 v49 s47.1.skills :: obC b24 [.int .i64 s47.1.no, .int .i64 s47.1.capacity, .int .i64 s47.1.calendar, v49] 32 :: obC b1 [.int .i64 s47.2.no, .int .i64 s47.2.capacity, .int .i64 s47.2.calendar, v51] 32 :: []) := hH54
      refine C_seq (C_region (V_y (Y_lss rfl rfl) rfl rfl rfl (V_to (fun _ _ => rfl) ?_)))
      refine C_seq ?_
      refine C_cond rfl (fun hc63 => ?_) (fun hc63 => ?_)
      · have hlt59 := lt_of_dec hc63
        obtain ⟨x55, h56, h57⟩ := K61 hlt59
        refine C_skip_to (fun _ _ => rfl) ?_
        refine C_seq ?_
        refine C_block ?_
        refine C_seq ?_
        refine C_region ?_
        refine V_y (Y_move rfl) rfl rfl rfl ?_
        rcases Bool.eq_false_or_eq_true (decide ((k37 : Int) = 0)) with hc64 | hc64
        · rw [if_pos hc64] at h56
          have hx65 : idx ([⟨.pointer (some ⟨b24, 0, none⟩), rfl⟩, ⟨.pointer (some ⟨b24, 1, none⟩), rfl⟩, ⟨.pointer (some ⟨b24, 2, none⟩), rfl⟩] : List Sv) (k37 : Int) = some ⟨.pointer (some ⟨b24, 0, none⟩), rfl⟩ := by rw [of_decide_eq_true hc64]; rfl
          refine V_indexAddr (α := Sv) h31 hx65 Tryz.underlying145 Tryz.sizeOf144 rfl rfl rfl ?_
          intro b66 o67 h68
          refine V_y (Y_load (El.sv h68) Tryz.isAgg144 rfl) rfl rfl rfl ?_
          refine V_y (Y_assign rfl) rfl rfl rfl ?_
          refine V_y (Y_assign rfl) rfl rfl rfl ?_
          refine V_to (fun _ _ => rfl) ?_
          refine C_seq ?_
          refine C_region ?_
          refine V_y (Y_move rfl) rfl rfl rfl ?_
          refine V_y (Y_move rfl) rfl rfl rfl ?_
          refine V_y (Y_addI rfl rfl) rfl rfl rfl ?_
          obtain ⟨x69, hx69, h56⟩ := Option.bind_eq_some_iff.1 h56
          refine V_indexAddr h8 hx69 Tryz.underlying36 Tryz.sizeOf9 rfl rfl rfl ?_
          intro b70 o71 h72
          refine V_y (Y_load (El.str h72) Tryz.isAgg9 rfl) rfl rfl rfl ?_
          obtain ⟨x73, hx73, h56⟩ := Option.bind_eq_some_iff.1 h56
          refine V_call Tryz.call52 rfl rfl rfl rfl (portref2_number_c w48 hA (Fz.tr (Dw := False) hT hK) x69 9 hx73) ?_
          rintro _ w74 ⟨rfl, hk75⟩
          have ht76 := Kp.tr (Dw := False) hk75 hA hB
          replace hH := Hp.kp (Dw := False) hH hk75
          replace h8 := Sl.tr (Dw := False) h8 ht76
          replace h31 := Sl.kp (Dw := False) h31 hk75
          replace h72 := El.tr (Dw := False) h72 ht76
          replace h52 := Sl.tr (Dw := False) h52 ht76
          replace hK := Tr.trans (Dw := False) hK ht76
          replace hr36 := Tr.trans (Dw := False) hr36 ht76
          replace hB := Nat.le_trans hB ht76.ex.size
          replace hA := ht76.new
          refine V_y (Y_move rfl) rfl rfl rfl ?_
          refine V_y (Y_extract rfl rfl) rfl rfl rfl ?_
          refine V_y (Y_extract rfl rfl) rfl rfl rfl ?_
          refine V_y (Y_assign rfl) rfl rfl rfl ?_
          refine V_y (Y_assign rfl) rfl rfl rfl ?_
          refine V_to (fun _ _ => rfl) ?_
          refine C_seq ?_
          refine C_seq ?_
          refine C_region ?_
          refine V_y (Y_move rfl) rfl rfl rfl ?_
          refine V_y (Y_not rfl) rfl rfl rfl ?_
          refine V_to (fun _ _ => rfl) ?_
          refine C_cond rfl (fun hc77 => ?_) (fun hc77 => ?_)
          · rw [if_pos hc77] at h56
            refine C_seq ?_
            refine C_region ?_
            refine V_y (Y_build Tryz.underlying32 Tryz.zeroValue32 (Tryz_places32 _ Tryz.underlying32) rfl (by with_unfolding_all rfl)) rfl rfl rfl ?_
            refine V_storeC (Dw := False) (off := 0) (ds := [.int .i64 0, .int .i64 0, .int .i64 0, .slice none 0 0]) hH (i := 2) rfl Tryz.sizeOf32 rfl (Nat.le_of_ble_eq_true rfl) (by exact (List.forall_mem_cons.2 ⟨rfl, (List.forall_mem_cons.2 ⟨rfl, (List.forall_mem_cons.2 ⟨rfl, (List.forall_mem_cons.2 ⟨rfl, (fun _ h => nomatch h)⟩)⟩)⟩)⟩)) rfl hB hA rfl rfl ?_
            intro w78 hH79 ht80
            replace h8 := Sl.tr (Dw := False) h8 ht80
            replace h31 := Sl.tr (Dw := False) h31 ht80
            replace h52 := Sl.tr (Dw := False) h52 ht80
            replace hK := Tr.trans (Dw := False) hK ht80
            replace hr36 := Tr.trans (Dw := False) hr36 ht80
            replace hB := Nat.le_trans hB ht80.ex.size
            replace hA := ht80.new
            replace hH : Hp w.heap.size A53 w78 (obS (α := route_Skill) 102 v49 s47.1.skills :: obC b24 [.int .i64 s47.1.no, .int .i64 s47.1.capacity, .int .i64 s47.1.calendar, v49] 32 :: obC b1 [.int .i64 0, .int .i64 0, .int .i64 0, .slice none 0 0] 32 :: []) := hH79
            refine V_y (Y_assign rfl) rfl rfl rfl ?_
            refine V_to (fun _ _ => rfl) ?_
            obtain rfl := Option.some.inj h56
            obtain rfl := (h57 : Lp.rt _ = _)
            rw [Lp.andThen_rt] at hm
            obtain rfl := Option.some.inj hm
            refine C_ret ?_
            try simp only [↓inBlock_ret, ↓then_ret]
            exact retQ rfl (Res.l2 Tryz.results12 (RL.cell rfl (loadVar_agg (Hp.part (off := 0) (n := 4) (ds := [.int .i64 0, .int .i64 0, .int .i64 0, .slice none 0 0]) hH (i := 2) rfl rfl) Tryz.isAgg32 Tryz.sizeOf32)) (RL.tmp rfl)) ⟨.slice none 0 0, rfl, Sl.nil, hK.kp⟩
          · rw [if_neg (nt hc77)] at h56
            refine C_skip_to (fun _ _ => rfl) ?_
            refine C_region ?_
            refine V_y (Y_move rfl) rfl rfl rfl ?_
            refine V_y (Y_move rfl) rfl rfl rfl ?_
            refine V_y (Y_nilCheck rfl) rfl rfl rfl ?_
            refine V_storeC (Dw := False) (off := 0) (ds := [.int .i64 x73.1, .int .i64 s47.1.capacity, .int .i64 s47.1.calendar, v49]) hH (i := 1) rfl Tryz.sizeOf3 rfl (Nat.le_of_ble_eq_true rfl) (by simp [Value.cells, Value.oneCell']) rfl hB hA rfl rfl ?_
            intro w81 hH82 ht83
            replace h8 := Sl.tr (Dw := False) h8 ht83
            replace h31 := Sl.tr (Dw := False) h31 ht83
            replace h52 := Sl.tr (Dw := False) h52 ht83
            replace hK := Tr.trans (Dw := False) hK ht83
            replace hr36 := Tr.trans (Dw := False) hr36 ht83
            replace hB := Nat.le_trans hB ht83.ex.size
            replace hA := ht83.new
            replace hH : Hp w.heap.size A53 w81 (obS (α := route_Skill) 102 v49 s47.1.skills :: obC b24 [.int .i64 x73.1, .int .i64 s47.1.capacity, .int .i64 s47.1.calendar, v49] 32 :: obC b1 [.int .i64 s47.2.no, .int .i64 s47.2.capacity, .int .i64 s47.2.calendar, v51] 32 :: []) := hH82
            refine V_to (fun _ _ => rfl) ?_
            refine C_region ?_
            refine V_y (Y_addI rfl rfl) rfl rfl rfl ?_
            refine V_y (Y_move rfl) rfl rfl rfl ?_
            obtain rfl := Option.some.inj h56
            refine V_end (fun a ha84 => ?_)
            exact ⟨((⟨x73.1, s47.1.capacity, s47.1.calendar, s47.1.skills⟩ : route_Person), s47.2), hlt59, h57, ⟨(v49, v51, A53), ha84.sub ⟨rfl, rfl, rfl, rfl, rfl, (congrArg (fun z => some (Value.int .i64 z)) (w64_succ hlt59 hn62)), trivial⟩, ⟨h52, hH, hr36⟩⟩⟩
        · rw [if_neg (nt hc64)] at h56
          rcases Bool.eq_false_or_eq_true (decide ((k37 : Int) = 1)) with hc85 | hc85
          · rw [if_pos hc85] at h56
            have hx86 : idx ([⟨.pointer (some ⟨b24, 0, none⟩), rfl⟩, ⟨.pointer (some ⟨b24, 1, none⟩), rfl⟩, ⟨.pointer (some ⟨b24, 2, none⟩), rfl⟩] : List Sv) (k37 : Int) = some ⟨.pointer (some ⟨b24, 1, none⟩), rfl⟩ := by rw [of_decide_eq_true hc85]; rfl
            refine V_indexAddr (α := Sv) h31 hx86 Tryz.underlying145 Tryz.sizeOf144 rfl rfl rfl ?_
            intro b87 o88 h89
            refine V_y (Y_load (El.sv h89) Tryz.isAgg144 rfl) rfl rfl rfl ?_
            refine V_y (Y_assign rfl) rfl rfl rfl ?_
            refine V_y (Y_assign rfl) rfl rfl rfl ?_
            refine V_to (fun _ _ => rfl) ?_
            refine C_seq ?_
            refine C_region ?_
            refine V_y (Y_move rfl) rfl rfl rfl ?_
            refine V_y (Y_move rfl) rfl rfl rfl ?_
            refine V_y (Y_addI rfl rfl) rfl rfl rfl ?_
            obtain ⟨x90, hx90, h56⟩ := Option.bind_eq_some_iff.1 h56
            refine V_indexAddr h8 hx90 Tryz.underlying36 Tryz.sizeOf9 rfl rfl rfl ?_
            intro b91 o92 h93
            refine V_y (Y_load (El.str h93) Tryz.isAgg9 rfl) rfl rfl rfl ?_
            obtain ⟨x94, hx94, h56⟩ := Option.bind_eq_some_iff.1 h56
            refine V_call Tryz.call52 rfl rfl rfl rfl (portref2_number_c w48 hA (Fz.tr (Dw := False) hT hK) x90 9 hx94) ?_
            rintro _ w95 ⟨rfl, hk96⟩
            have ht97 := Kp.tr (Dw := False) hk96 hA hB
            replace hH := Hp.kp (Dw := False) hH hk96
            replace h8 := Sl.tr (Dw := False) h8 ht97
            replace h31 := Sl.kp (Dw := False) h31 hk96
            replace h93 := El.tr (Dw := False) h93 ht97
            replace h52 := Sl.tr (Dw := False) h52 ht97
            replace hK := Tr.trans (Dw := False) hK ht97
            replace hr36 := Tr.trans (Dw := False) hr36 ht97
            replace hB := Nat.le_trans hB ht97.ex.size
            replace hA := ht97.new
            refine V_y (Y_move rfl) rfl rfl rfl ?_
            refine V_y (Y_extract rfl rfl) rfl rfl rfl ?_
            refine V_y (Y_extract rfl rfl) rfl rfl rfl ?_
            refine V_y (Y_assign rfl) rfl rfl rfl ?_
            refine V_y (Y_assign rfl) rfl rfl rfl ?_
            refine V_to (fun _ _ => rfl) ?_
            refine C_seq ?_
            refine C_seq ?_
            refine C_region ?_
            refine V_y (Y_move rfl) rfl rfl rfl ?_
            refine V_y (Y_not rfl) rfl rfl rfl ?_
            refine V_to (fun _ _ => rfl) ?_
            refine C_cond rfl (fun hc98 => ?_) (fun hc98 => ?_)
            · rw [if_pos hc98] at h56
              refine C_seq ?_
              refine C_region ?_
              refine V_y (Y_build Tryz.underlying32 Tryz.zeroValue32 (Tryz_places32 _ Tryz.underlying32) rfl (by with_unfolding_all rfl)) rfl rfl rfl ?_
              refine V_storeC (Dw := False) (off := 0) (ds := [.int .i64 0, .int .i64 0, .int .i64 0, .slice none 0 0]) hH (i := 2) rfl Tryz.sizeOf32 rfl (Nat.le_of_ble_eq_true rfl) (by exact (List.forall_mem_cons.2 ⟨rfl, (List.forall_mem_cons.2 ⟨rfl, (List.forall_mem_cons.2 ⟨rfl, (List.forall_mem_cons.2 ⟨rfl, (fun _ h => nomatch h)⟩)⟩)⟩)⟩)) rfl hB hA rfl rfl ?_
              intro w99 hH100 ht101
              replace h8 := Sl.tr (Dw := False) h8 ht101
              replace h31 := Sl.tr (Dw := False) h31 ht101
              replace h52 := Sl.tr (Dw := False) h52 ht101
              replace hK := Tr.trans (Dw := False) hK ht101
              replace hr36 := Tr.trans (Dw := False) hr36 ht101
              replace hB := Nat.le_trans hB ht101.ex.size
              replace hA := ht101.new
              replace hH : Hp w.heap.size A53 w99 (obS (α := route_Skill) 102 v49 s47.1.skills :: obC b24 [.int .i64 s47.1.no, .int .i64 s47.1.capacity, .int .i64 s47.1.calendar, v49] 32 :: obC b1 [.int .i64 0, .int .i64 0, .int .i64 0, .slice none 0 0] 32 :: []) := hH100
              refine V_y (Y_assign rfl) rfl rfl rfl ?_
              refine V_to (fun _ _ => rfl) ?_
              obtain rfl := Option.some.inj h56
              obtain rfl := (h57 : Lp.rt _ = _)
              rw [Lp.andThen_rt] at hm
              obtain rfl := Option.some.inj hm
              refine C_ret ?_
              try simp only [↓inBlock_ret, ↓then_ret]
              exact retQ rfl (Res.l2 Tryz.results12 (RL.cell rfl (loadVar_agg (Hp.part (off := 0) (n := 4) (ds := [.int .i64 0, .int .i64 0, .int .i64 0, .slice none 0 0]) hH (i := 2) rfl rfl) Tryz.isAgg32 Tryz.sizeOf32)) (RL.tmp rfl)) ⟨.slice none 0 0, rfl, Sl.nil, hK.kp⟩
            · rw [if_neg (nt hc98)] at h56
              refine C_skip_to (fun _ _ => rfl) ?_
              refine C_region ?_
              refine V_y (Y_move rfl) rfl rfl rfl ?_
              refine V_y (Y_move rfl) rfl rfl rfl ?_
              refine V_y (Y_nilCheck rfl) rfl rfl rfl ?_
              refine V_storeC (Dw := False) (off := 1) (ds := [.int .i64 s47.1.no, .int .i64 x94.1, .int .i64 s47.1.calendar, v49]) hH (i := 1) rfl Tryz.sizeOf3 rfl (Nat.le_of_ble_eq_true rfl) (by simp [Value.cells, Value.oneCell']) rfl hB hA rfl rfl ?_
              intro w102 hH103 ht104
              replace h8 := Sl.tr (Dw := False) h8 ht104
              replace h31 := Sl.tr (Dw := False) h31 ht104
              replace h52 := Sl.tr (Dw := False) h52 ht104
              replace hK := Tr.trans (Dw := False) hK ht104
              replace hr36 := Tr.trans (Dw := False) hr36 ht104
              replace hB := Nat.le_trans hB ht104.ex.size
              replace hA := ht104.new
              replace hH : Hp w.heap.size A53 w102 (obS (α := route_Skill) 102 v49 s47.1.skills :: obC b24 [.int .i64 s47.1.no, .int .i64 x94.1, .int .i64 s47.1.calendar, v49] 32 :: obC b1 [.int .i64 s47.2.no, .int .i64 s47.2.capacity, .int .i64 s47.2.calendar, v51] 32 :: []) := hH103
              refine V_to (fun _ _ => rfl) ?_
              refine C_region ?_
              refine V_y (Y_addI rfl rfl) rfl rfl rfl ?_
              refine V_y (Y_move rfl) rfl rfl rfl ?_
              obtain rfl := Option.some.inj h56
              refine V_end (fun a ha105 => ?_)
              exact ⟨((⟨s47.1.no, x94.1, s47.1.calendar, s47.1.skills⟩ : route_Person), s47.2), hlt59, h57, ⟨(v49, v51, A53), ha105.sub ⟨rfl, rfl, rfl, rfl, rfl, (congrArg (fun z => some (Value.int .i64 z)) (w64_succ hlt59 hn62)), trivial⟩, ⟨h52, hH, hr36⟩⟩⟩
          · rw [if_neg (nt hc85)] at h56
            have h110 : (k37 : Int) = 2 := by have h3 : k37 < 3 := hlt59; have h3a := of_decide_eq_false hc64; have h3b := of_decide_eq_false hc85; omega
            have hx106 : idx ([⟨.pointer (some ⟨b24, 0, none⟩), rfl⟩, ⟨.pointer (some ⟨b24, 1, none⟩), rfl⟩, ⟨.pointer (some ⟨b24, 2, none⟩), rfl⟩] : List Sv) (k37 : Int) = some ⟨.pointer (some ⟨b24, 2, none⟩), rfl⟩ := by rw [h110]; rfl
            refine V_indexAddr (α := Sv) h31 hx106 Tryz.underlying145 Tryz.sizeOf144 rfl rfl rfl ?_
            intro b107 o108 h109
            refine V_y (Y_load (El.sv h109) Tryz.isAgg144 rfl) rfl rfl rfl ?_
            refine V_y (Y_assign rfl) rfl rfl rfl ?_
            refine V_y (Y_assign rfl) rfl rfl rfl ?_
            refine V_to (fun _ _ => rfl) ?_
            refine C_seq ?_
            refine C_region ?_
            refine V_y (Y_move rfl) rfl rfl rfl ?_
            refine V_y (Y_move rfl) rfl rfl rfl ?_
            refine V_y (Y_addI rfl rfl) rfl rfl rfl ?_
            obtain ⟨x111, hx111, h56⟩ := Option.bind_eq_some_iff.1 h56
            refine V_indexAddr h8 hx111 Tryz.underlying36 Tryz.sizeOf9 rfl rfl rfl ?_
            intro b112 o113 h114
            refine V_y (Y_load (El.str h114) Tryz.isAgg9 rfl) rfl rfl rfl ?_
            obtain ⟨x115, hx115, h56⟩ := Option.bind_eq_some_iff.1 h56
            refine V_call Tryz.call52 rfl rfl rfl rfl (portref2_number_c w48 hA (Fz.tr (Dw := False) hT hK) x111 9 hx115) ?_
            rintro _ w116 ⟨rfl, hk117⟩
            have ht118 := Kp.tr (Dw := False) hk117 hA hB
            replace hH := Hp.kp (Dw := False) hH hk117
            replace h8 := Sl.tr (Dw := False) h8 ht118
            replace h31 := Sl.kp (Dw := False) h31 hk117
            replace h114 := El.tr (Dw := False) h114 ht118
            replace h52 := Sl.tr (Dw := False) h52 ht118
            replace hK := Tr.trans (Dw := False) hK ht118
            replace hr36 := Tr.trans (Dw := False) hr36 ht118
            replace hB := Nat.le_trans hB ht118.ex.size
            replace hA := ht118.new
            refine V_y (Y_move rfl) rfl rfl rfl ?_
            refine V_y (Y_extract rfl rfl) rfl rfl rfl ?_
            refine V_y (Y_extract rfl rfl) rfl rfl rfl ?_
            refine V_y (Y_assign rfl) rfl rfl rfl ?_
            refine V_y (Y_assign rfl) rfl rfl rfl ?_
            refine V_to (fun _ _ => rfl) ?_
            refine C_seq ?_
            refine C_seq ?_
            refine C_region ?_
            refine V_y (Y_move rfl) rfl rfl rfl ?_
            refine V_y (Y_not rfl) rfl rfl rfl ?_
            refine V_to (fun _ _ => rfl) ?_
            refine C_cond rfl (fun hc119 => ?_) (fun hc119 => ?_)
            · rw [if_pos hc119] at h56
              refine C_seq ?_
              refine C_region ?_
              refine V_y (Y_build Tryz.underlying32 Tryz.zeroValue32 (Tryz_places32 _ Tryz.underlying32) rfl (by with_unfolding_all rfl)) rfl rfl rfl ?_
              refine V_storeC (Dw := False) (off := 0) (ds := [.int .i64 0, .int .i64 0, .int .i64 0, .slice none 0 0]) hH (i := 2) rfl Tryz.sizeOf32 rfl (Nat.le_of_ble_eq_true rfl) (by exact (List.forall_mem_cons.2 ⟨rfl, (List.forall_mem_cons.2 ⟨rfl, (List.forall_mem_cons.2 ⟨rfl, (List.forall_mem_cons.2 ⟨rfl, (fun _ h => nomatch h)⟩)⟩)⟩)⟩)) rfl hB hA rfl rfl ?_
              intro w120 hH121 ht122
              replace h8 := Sl.tr (Dw := False) h8 ht122
              replace h31 := Sl.tr (Dw := False) h31 ht122
              replace h52 := Sl.tr (Dw := False) h52 ht122
              replace hK := Tr.trans (Dw := False) hK ht122
              replace hr36 := Tr.trans (Dw := False) hr36 ht122
              replace hB := Nat.le_trans hB ht122.ex.size
              replace hA := ht122.new
              replace hH : Hp w.heap.size A53 w120 (obS (α := route_Skill) 102 v49 s47.1.skills :: obC b24 [.int .i64 s47.1.no, .int .i64 s47.1.capacity, .int .i64 s47.1.calendar, v49] 32 :: obC b1 [.int .i64 0, .int .i64 0, .int .i64 0, .slice none 0 0] 32 :: []) := hH121
              refine V_y (Y_assign rfl) rfl rfl rfl ?_
              refine V_to (fun _ _ => rfl) ?_
              obtain rfl := Option.some.inj h56
              obtain rfl := (h57 : Lp.rt _ = _)
              rw [Lp.andThen_rt] at hm
              obtain rfl := Option.some.inj hm
              refine C_ret ?_
              try simp only [↓inBlock_ret, ↓then_ret]
              exact retQ rfl (Res.l2 Tryz.results12 (RL.cell rfl (loadVar_agg (Hp.part (off := 0) (n := 4) (ds := [.int .i64 0, .int .i64 0, .int .i64 0, .slice none 0 0]) hH (i := 2) rfl rfl) Tryz.isAgg32 Tryz.sizeOf32)) (RL.tmp rfl)) ⟨.slice none 0 0, rfl, Sl.nil, hK.kp⟩
            · rw [if_neg (nt hc119)] at h56
              refine C_skip_to (fun _ _ => rfl) ?_
              refine C_region ?_
              refine V_y (Y_move rfl) rfl rfl rfl ?_
              refine V_y (Y_move rfl) rfl rfl rfl ?_
              refine V_y (Y_nilCheck rfl) rfl rfl rfl ?_
              refine V_storeC (Dw := False) (off := 2) (ds := [.int .i64 s47.1.no, .int .i64 s47.1.capacity, .int .i64 x115.1, v49]) hH (i := 1) rfl Tryz.sizeOf3 rfl (Nat.le_of_ble_eq_true rfl) (by simp [Value.cells, Value.oneCell']) rfl hB hA rfl rfl ?_
              intro w123 hH124 ht125
              replace h8 := Sl.tr (Dw := False) h8 ht125
              replace h31 := Sl.tr (Dw := False) h31 ht125
              replace h52 := Sl.tr (Dw := False) h52 ht125
              replace hK := Tr.trans (Dw := False) hK ht125
              replace hr36 := Tr.trans (Dw := False) hr36 ht125
              replace hB := Nat.le_trans hB ht125.ex.size
              replace hA := ht125.new
              replace hH : Hp w.heap.size A53 w123 (obS (α := route_Skill) 102 v49 s47.1.skills :: obC b24 [.int .i64 s47.1.no, .int .i64 s47.1.capacity, .int .i64 x115.1, v49] 32 :: obC b1 [.int .i64 s47.2.no, .int .i64 s47.2.capacity, .int .i64 s47.2.calendar, v51] 32 :: []) := hH124
              refine V_to (fun _ _ => rfl) ?_
              refine C_region ?_
              refine V_y (Y_addI rfl rfl) rfl rfl rfl ?_
              refine V_y (Y_move rfl) rfl rfl rfl ?_
              obtain rfl := Option.some.inj h56
              refine V_end (fun a ha126 => ?_)
              exact ⟨((⟨s47.1.no, s47.1.capacity, x115.1, s47.1.skills⟩ : route_Person), s47.2), hlt59, h57, ⟨(v49, v51, A53), ha126.sub ⟨rfl, rfl, rfl, rfl, rfl, (congrArg (fun z => some (Value.int .i64 z)) (w64_succ hlt59 hn62)), trivial⟩, ⟨h52, hH, hr36⟩⟩⟩
      · refine C_exit (fun a ha127 => ?_)
        exact ⟨((s47.1, s47.2), v49, v51, A53), ha127.sub ⟨rfl, rfl, rfl, trivial⟩, ⟨(h60 (eq_of_dec hle58 hc63)).symm, h52, hH, hr36⟩⟩
    rintro ⟨s35, v41, v43, A45⟩ w38 ⟨rfl, h44, hH46, hk39⟩ a ha40
    rw [Lp.andThen_fin] at hm
    replace h8 := Sl.tr (Dw := False) h8 hk39
    replace hK := Tr.trans (Dw := False) hK hk39
    replace hB := Nat.le_trans hB hk39.ex.size
    replace hA := hk39.new
    replace hH : Hp w.heap.size A45 w38 (obS (α := route_Skill) 102 v41 s35.1.skills :: obC b24 [.int .i64 s35.1.no, .int .i64 s35.1.capacity, .int .i64 s35.1.calendar, v41] 32 :: obC b1 [.int .i64 s35.2.no, .int .i64 s35.2.capacity, .int .i64 s35.2.calendar, v43] 32 :: []) := hH46
    refine C_at (n := ⟨94, [], none⟩) (fun _ _ => rfl) ?_ ha40
    refine C_seq ?_
    refine C_seq ?_
    refine C_region ?_
    refine V_y (Y_assign rfl) rfl rfl rfl ?_
    refine V_to (fun _ _ => rfl) ?_
    obtain ⟨o129, ho129, hm⟩ := Option.bind_eq_some_iff.1 hm
    refine C_cutG (ι := ((Int × route_Person × route_Person) × Value × Value × (Nat → Prop))) (fun ⟨s130, v136, v138, A140⟩ => [(2, .pointer (some ⟨b1, 0, none⟩)), (5, .pointer (some ⟨b24, 0, none⟩))]) (fun ⟨s130, v136, v138, A140⟩ => fun w' => o129 = .fin s130 ∧ Sl A140 w' v138 s130.2.2.skills ∧ Hp w.heap.size A140 w' (obS (α := route_Skill) 102 v136 s130.2.1.skills :: obC b24 [.int .i64 s130.2.1.no, .int .i64 s130.2.1.capacity, .int .i64 s130.2.1.calendar, v136] 32 :: obC b1 [.int .i64 s130.2.2.no, .int .i64 s130.2.2.capacity, .int .i64 s130.2.2.calendar, v138] 32 :: []) ∧ Tr False w.heap.size A45 w38 A140 w') ?_ ?_
    · refine C_block ?_
      refine C_while ho129 (fun s142 a w' => ∃ i : (Value × Value × (Nat → Prop)), Has ⟨94, [], none⟩ a ([(2, .pointer (some ⟨b1, 0, none⟩)), (4, v7), (5, .pointer (some ⟨b24, 0, none⟩)), (10, .int .i64 s142.1)]) ∧ Sl i.2.2 w' i.2.1 s142.2.2.skills ∧ Hp w.heap.size i.2.2 w' (obS (α := route_Skill) 102 i.1 s142.2.1.skills :: obC b24 [.int .i64 s142.2.1.no, .int .i64 s142.2.1.capacity, .int .i64 s142.2.1.calendar, i.1] 32 :: obC b1 [.int .i64 s142.2.2.no, .int .i64 s142.2.2.capacity, .int .i64 s142.2.2.calendar, i.2.1] 32 :: []) ∧ Tr False w.heap.size A45 w38 i.2.2 w') (fun a ha => ⟨(v41, v43, A45), ha.sub ⟨rfl, rfl, rfl, rfl, trivial⟩, ⟨h44, hH, Tr.refl (Dw := False) hA⟩⟩) ?_
      rintro K s142 a w143 ⟨⟨v144, v146, A148⟩, ha201, h147, hH149, hr131⟩ K156
      refine C_of ?_ ha201
      replace h8 := Sl.tr (Dw := False) h8 hr131
      replace hK := Tr.trans (Dw := False) hK hr131
      replace hB := Nat.le_trans hB hr131.ex.size
      replace hA := hr131.new
      replace hH : Hp w.heap.size A148 w143 (obS (α := route_Skill) 102 v144 s142.2.1.skills :: obC b24 [.int .i64 s142.2.1.no, .int .i64 s142.2.1.capacity, .int .i64 s142.2.1.calendar, v144] 32 :: obC b1 [.int .i64 s142.2.2.no, .int .i64 s142.2.2.capacity, .int .i64 s142.2.2.calendar, v146] 32 :: []) := hH149
      obtain ⟨x150, h151, h152⟩ := K156
      refine C_seq ?_
      refine C_seq ?_
      refine C_region ?_
      refine V_y (Y_move rfl) rfl rfl rfl ?_
      refine V_y (Y_move rfl) rfl rfl rfl ?_
      refine V_y (Y_lenSl h8 rfl Tryz.underlying36 rfl) rfl rfl rfl ?_
      refine V_y (Y_lss rfl rfl) rfl rfl rfl ?_
      refine V_to (fun _ _ => rfl) ?_
      refine C_cond rfl (fun hc157 => ?_) (fun hc157 => ?_)
      · rw [if_pos hc157] at h151
        refine C_skip_to (fun _ _ => rfl) ?_
        refine C_seq ?_
        refine C_block ?_
        refine C_seq ?_
        refine C_region ?_
        refine V_y (Y_move rfl) rfl rfl rfl ?_
        refine V_y (Y_move rfl) rfl rfl rfl ?_
        refine V_y (Y_addI rfl rfl) rfl rfl rfl ?_
        obtain ⟨x158, hx158, h151⟩ := Option.bind_eq_some_iff.1 h151
        refine V_indexAddr h8 hx158 Tryz.underlying36 Tryz.sizeOf9 rfl rfl rfl ?_
        intro b159 o160 h161
        refine V_y (Y_load (El.str h161) Tryz.isAgg9 rfl) rfl rfl rfl ?_
        obtain ⟨x162, hx162, h151⟩ := Option.bind_eq_some_iff.1 h151
        refine V_call Tryz.call52 rfl rfl rfl rfl (portref2_number_c w143 hA (Fz.tr (Dw := False) hT hK) x158 9 hx162) ?_
        rintro _ w163 ⟨rfl, hk164⟩
        have ht165 := Kp.tr (Dw := False) hk164 hA hB
        replace hH := Hp.kp (Dw := False) hH hk164
        replace h8 := Sl.tr (Dw := False) h8 ht165
        replace h161 := El.tr (Dw := False) h161 ht165
        replace h147 := Sl.tr (Dw := False) h147 ht165
        replace hK := Tr.trans (Dw := False) hK ht165
        replace hr131 := Tr.trans (Dw := False) hr131 ht165
        replace hB := Nat.le_trans hB ht165.ex.size
        replace hA := ht165.new
        refine V_y (Y_move rfl) rfl rfl rfl ?_
        refine V_y (Y_extract rfl rfl) rfl rfl rfl ?_
        refine V_y (Y_extract rfl rfl) rfl rfl rfl ?_
        refine V_y (Y_assign rfl) rfl rfl rfl ?_
        refine V_y (Y_assign rfl) rfl rfl rfl ?_
        refine V_to (fun _ _ => rfl) ?_
        refine C_seq ?_
        refine C_seq ?_
        refine C_region ?_
        refine V_y (Y_move rfl) rfl rfl rfl ?_
        refine V_y (Y_move rfl) rfl rfl rfl ?_
        obtain ⟨x166, hx166, h151⟩ := Option.bind_eq_some_iff.1 h151
        refine V_indexAddr h8 hx166 Tryz.underlying36 Tryz.sizeOf9 rfl rfl rfl ?_
        intro b167 o168 h169
        refine V_y (Y_load (El.str h169) Tryz.isAgg9 rfl) rfl rfl rfl ?_
        refine V_y (Y_seql rfl rfl) rfl rfl rfl ?_
        refine V_y (Y_move rfl) rfl rfl rfl ?_
        refine V_cut 3 (fun _ : Unit => [(2, .pointer (some ⟨b1, 0, none⟩)), (4, v7), (5, .pointer (some ⟨b24, 0, none⟩)), (10, .int .i64 s142.1), (11, .int .i64 x162.1), (80, .bool ((strEq x166 (⟨#[]⟩ : ByteArray)) || (!x162.2)))]) (fun _ w' => w163 = w') ?_ ?_
        · simp only [List.take, List.drop]
          rcases Bool.eq_false_or_eq_true (strEq x166 (⟨#[]⟩ : ByteArray)) with hc170 | hc170
          · refine V_gn rfl rfl rfl hc170 rfl rfl rfl ?_
            refine V_gn rfl rfl rfl hc170 rfl rfl rfl ?_
            refine V_y (Y_pick_te rfl hc170 rfl) rfl rfl rfl ?_
            exact V_end fun a ha => ⟨(), ha.sub ⟨rfl, rfl, rfl, rfl, rfl, (by rw [hc170]; rfl), trivial⟩, rfl⟩
          · refine V_ge rfl rfl rfl hc170 ?_
            refine V_y (Y_move rfl) rfl rfl rfl ?_
            refine V_ge rfl rfl rfl hc170 ?_
            refine V_y (Y_not rfl) rfl rfl rfl ?_
            refine V_y (Y_pick_fe rfl hc170 rfl) rfl rfl rfl ?_
            exact V_end fun a ha => ⟨(), ha.sub ⟨rfl, rfl, rfl, rfl, rfl, (by rw [hc170]; rfl), trivial⟩, rfl⟩
        simp only [List.take, List.drop]
        rintro _ _ rfl
        refine V_to (fun _ _ => rfl) ?_
        refine C_cond rfl (fun hc172 => ?_) (fun hc172 => ?_)
        · rw [if_pos hc172] at h151
          refine C_seq ?_
          refine C_region ?_
          refine V_y (Y_build Tryz.underlying32 Tryz.zeroValue32 (Tryz_places32 _ Tryz.underlying32) rfl (by with_unfolding_all rfl)) rfl rfl rfl ?_
          refine V_storeC (Dw := False) (off := 0) (ds := [.int .i64 0, .int .i64 0, .int .i64 0, .slice none 0 0]) hH (i := 2) rfl Tryz.sizeOf32 rfl (Nat.le_of_ble_eq_true rfl) (by exact (List.forall_mem_cons.2 ⟨rfl, (List.forall_mem_cons.2 ⟨rfl, (List.forall_mem_cons.2 ⟨rfl, (List.forall_mem_cons.2 ⟨rfl, (fun _ h => nomatch h)⟩)⟩)⟩)⟩)) rfl hB hA rfl rfl ?_
          intro w173 hH174 ht175
          replace h8 := Sl.tr (Dw := False) h8 ht175
          replace h147 := Sl.tr (Dw := False) h147 ht175
          replace hK := Tr.trans (Dw := False) hK ht175
          replace hr131 := Tr.trans (Dw := False) hr131 ht175
          replace hB := Nat.le_trans hB ht175.ex.size
          replace hA := ht175.new
          replace hH : Hp w.heap.size A148 w173 (obS (α := route_Skill) 102 v144 s142.2.1.skills :: obC b24 [.int .i64 s142.2.1.no, .int .i64 s142.2.1.capacity, .int .i64 s142.2.1.calendar, v144] 32 :: obC b1 [.int .i64 0, .int .i64 0, .int .i64 0, .slice none 0 0] 32 :: []) := hH174
          refine V_y (Y_assign rfl) rfl rfl rfl ?_
          refine V_to (fun _ _ => rfl) ?_
          obtain rfl := Option.some.inj h151
          obtain rfl := (h152 : Lp.rt _ = _)
          rw [Lp.andThen_rt] at hm
          obtain rfl := Option.some.inj hm
          refine C_ret ?_
          try simp only [↓inBlock_ret, ↓then_ret]
          exact retQ rfl (Res.l2 Tryz.results12 (RL.cell rfl (loadVar_agg (Hp.part (off := 0) (n := 4) (ds := [.int .i64 0, .int .i64 0, .int .i64 0, .slice none 0 0]) hH (i := 2) rfl rfl) Tryz.isAgg32 Tryz.sizeOf32)) (RL.tmp rfl)) ⟨.slice none 0 0, rfl, Sl.nil, hK.kp⟩
        · rw [if_neg (nt hc172)] at h151
          refine C_skip_to (fun _ _ => rfl) ?_
          refine C_region_ch (Dw := False) A148 12 [(1, 0), (0, 1), (1, 2), (1, 3), (1, 4), (1, 5), (1, 6), (1, 7), (2, 8), (4, 9), (1, 10), (4, 11)] Tryz_mixed (by kernel_rfl) (fun w176 hk177 => ?_)
          have ht178 := Kp.tr (Dw := False) hk177 hA hB
          replace hH := Hp.kp (Dw := False) hH hk177
          replace h8 := Sl.tr (Dw := False) h8 ht178
          replace h147 := Sl.tr (Dw := False) h147 ht178
          replace hK := Tr.trans (Dw := False) hK ht178
          replace hr131 := Tr.trans (Dw := False) hr131 ht178
          replace hB := Nat.le_trans hB ht178.ex.size
          replace hA := ht178.new
          refine CH_q2 (Dw := False) rfl ?_
          refine VQ_y (fun w' hw' => Y_fieldAddrC (off2 := 3) Tryz.underlying32 rfl Tryz.sizeOf30 (by decide) rfl rfl) rfl rfl rfl ?_
          refine VQ_CH (Dw := False) ?_
          refine CH_q1 (Dw := False) rfl ?_
          refine VQ_y (fun w' hw' => Y_load ((World.cell?_of_block (hw'.block _ (World.block_lt_of_cell? _ _ (Hp.cell (j := 3) hH (i := 1) rfl rfl)))).trans (Hp.cell (j := 3) hH (i := 1) rfl rfl)) Tryz.isAgg30 rfl) rfl rfl rfl ?_
          refine VQ_CH (Dw := False) ?_
          refine CH_q2 (Dw := False) rfl ?_
          refine VQ_y (fun w' hw' => Y_move rfl) rfl rfl rfl ?_
          refine VQ_CH (Dw := False) ?_
          refine CH_q2 (Dw := False) rfl ?_
          refine VQ_y (fun w' hw' => Y_move rfl) rfl rfl rfl ?_
          refine VQ_CH (Dw := False) ?_
          refine CH_q2 (Dw := False) rfl ?_
          refine VQ_indexAddr h8 hx166 Tryz.underlying36 Tryz.sizeOf9 rfl rfl rfl ?_
          intro b179 o180 h181
          refine VQ_CH (Dw := False) ?_
          refine CH_q2 (Dw := False) rfl ?_
          refine VQ_y (fun w' hw' => Y_load (El.str (El.keep h181 (XA.ex hw'))) Tryz.isAgg9 rfl) rfl rfl rfl ?_
          refine VQ_CH (Dw := False) ?_
          refine CH_q2 (Dw := False) rfl ?_
          refine VQ_y (fun w' hw' => Y_move rfl) rfl rfl rfl ?_
          refine VQ_CH (Dw := False) ?_
          refine CH_q2 (Dw := False) rfl ?_
          refine VQ_y (fun w' hw' => Y_build Tryz.underlying102 Tryz.zeroValue102 (Tryz_places102 _ Tryz.underlying102) rfl (by with_unfolding_all rfl)) rfl rfl rfl ?_
          refine VQ_CH (Dw := False) ?_
          refine CH_l1 (Dw := False) (k := 0) rfl ?_
          refine V_buildSlice (Dw := False) (cells := #[.string x166, .int .i64 x162.1]) (l := ([(⟨x166, x162.1⟩ : route_Skill)] : List route_Skill)) (len := 1) Tryz.underlying30 Tryz.sizeOf102 Tryz.zeroValue102 rfl (by kernel_rfl) (show (1 * 2 : Nat) ≠ 0 by decide) (show (1 * 2 : Nat) ≤ 2 ^ 24 by decide) hA ⟨[.string x166, .int .i64 x162.1], _, rfl, ⟨[.string x166], _, rfl, rfl, rfl⟩, rfl⟩ rfl rfl ?_
          intro v182 w183 hk185 h184
          have ht186 := Kp.tr (Dw := False) hk185 hA hB
          replace hH := Hp.kp (Dw := False) hH hk185
          replace h8 := Sl.tr (Dw := False) h8 ht186
          replace h181 := El.tr (Dw := False) h181 ht186
          replace h147 := Sl.tr (Dw := False) h147 ht186
          replace hK := Tr.trans (Dw := False) hK ht186
          replace hr131 := Tr.trans (Dw := False) hr131 ht186
          replace hB := Nat.le_trans hB ht186.ex.size
          replace hA := ht186.new
          refine V_CH (Dw := False) (hk185) ?_
          refine CH_l1 (Dw := False) (k := 2) rfl ?_
          obtain ⟨x187, hx187, h151⟩ := Option.bind_eq_some_iff.1 h151
          refine V_appendH (Dw := False) (e := 102) (v := v144) (l := s142.2.1.skills) (ti := Tryz.t102) (bytes := 24) (lim := 5864062014805) hH (i := 0) rfl h184 hx187 Tryz.underlying30 Tryz_info102 rfl rfl rfl rfl (by decide) (by decide) (by decide) hB hA rfl rfl rfl ?_
          intro v188 w189 A190 hH191 ht192
          replace h8 := Sl.tr (Dw := False) h8 ht192
          replace h181 := El.tr (Dw := False) h181 ht192
          replace h184 := Sl.tr (Dw := False) h184 ht192
          replace h147 := Sl.tr (Dw := False) h147 ht192
          replace hK := Tr.trans (Dw := False) hK ht192
          replace hr131 := Tr.trans (Dw := False) hr131 ht192
          replace hB := Nat.le_trans hB ht192.ex.size
          replace hA := ht192.new
          replace hH : Hp w.heap.size A190 w189 (obS (α := route_Skill) 102 v188 x187 :: obC b24 [.int .i64 s142.2.1.no, .int .i64 s142.2.1.capacity, .int .i64 s142.2.1.calendar, v144] 32 :: obC b1 [.int .i64 s142.2.2.no, .int .i64 s142.2.2.capacity, .int .i64 s142.2.2.calendar, v146] 32 :: []) := hH191
          refine V_CHw (Dw := False) ?_
          refine CH_q2 (Dw := False) rfl ?_
          refine VQ_y (fun w' hw' => Y_fieldAddrC (off2 := 3) Tryz.underlying32 rfl Tryz.sizeOf30 (by decide) rfl rfl) rfl rfl rfl ?_
          refine VQ_CH (Dw := False) ?_
          refine CH_l1 (Dw := False) (k := 2) rfl ?_
          have h198 : (v188).oneCell' = true := by obtain ⟨_, _, e, _⟩ := Hp.form (α := route_Skill) (e := 102) (v := v188) (l := x187) hH (i := 0) rfl; rw [e]; rfl
          refine V_storeC (Dw := False) (off := 3) (ds := [.int .i64 s142.2.1.no, .int .i64 s142.2.1.capacity, .int .i64 s142.2.1.calendar, v188]) hH (i := 1) rfl Tryz.sizeOf30 (by rw [← Array.length_toList, Value.cells_one h198]; rfl) (Nat.le_of_ble_eq_true rfl) (by intro u hu; rw [Value.cells_one h198] at hu; simp at hu; subst hu; assumption) (by rw [Value.cells_one h198]; rfl) hB hA rfl rfl ?_
          intro w193 hH194 ht195
          replace h8 := Sl.tr (Dw := False) h8 ht195
          replace h181 := El.tr (Dw := False) h181 ht195
          replace h184 := Sl.tr (Dw := False) h184 ht195
          replace h147 := Sl.tr (Dw := False) h147 ht195
          replace hK := Tr.trans (Dw := False) hK ht195
          replace hr131 := Tr.trans (Dw := False) hr131 ht195
          replace hB := Nat.le_trans hB ht195.ex.size
          replace hA := ht195.new
          replace hH : Hp w.heap.size A190 w193 (obS (α := route_Skill) 102 v188 x187 :: obC b24 [.int .i64 s142.2.1.no, .int .i64 s142.2.1.capacity, .int .i64 s142.2.1.calendar, v188] 32 :: obC b1 [.int .i64 s142.2.2.no, .int .i64 s142.2.2.capacity, .int .i64 s142.2.2.calendar, v146] 32 :: []) := hH194
          refine V_CHw (Dw := False) ?_
          refine CH_tail (Dw := False) ?_
          show V _ _ _ _ [] _ _
          refine V_to (fun _ _ => rfl) ?_
          refine C_region ?_
          refine V_y (Y_move rfl) rfl rfl rfl ?_
          refine V_y (Y_addI rfl rfl) rfl rfl rfl ?_
          refine V_y (Y_assign rfl) rfl rfl rfl ?_
          obtain rfl := Option.some.inj h151
          refine V_end (fun a ha199 => ?_)
          exact ⟨(w64 (s142.1 + 2), (⟨s142.2.1.no, s142.2.1.capacity, s142.2.1.calendar, x187⟩ : route_Person), s142.2.2), h152, ⟨(v188, v146, A190), ha199.sub ⟨rfl, rfl, rfl, rfl, trivial⟩, ⟨h147, hH, hr131⟩⟩⟩
      · rw [if_neg (nt hc157)] at h151
        obtain rfl := Option.some.inj h151
        refine C_exit (fun a ha200 => ?_)
        exact ⟨((s142.1, s142.2.1, s142.2.2), v144, v146, A148), ha200.sub ⟨rfl, rfl, trivial⟩, ⟨h152.symm, h147, hH, hr131⟩⟩
    rintro ⟨s130, v136, v138, A140⟩ w133 ⟨rfl, h139, hH141, hk134⟩ a ha135
    rw [Lp.andThen_fin] at hm
    replace hK := Tr.trans (Dw := False) hK hk134
    replace hB := Nat.le_trans hB hk134.ex.size
    replace hA := hk134.new
    replace hH : Hp w.heap.size A140 w133 (obS (α := route_Skill) 102 v136 s130.2.1.skills :: obC b24 [.int .i64 s130.2.1.no, .int .i64 s130.2.1.capacity, .int .i64 s130.2.1.calendar, v136] 32 :: obC b1 [.int .i64 s130.2.2.no, .int .i64 s130.2.2.capacity, .int .i64 s130.2.2.calendar, v138] 32 :: []) := hH141
    refine C_at (n := ⟨94, [], none⟩) (fun _ _ => rfl) ?_ ha135
    refine C_seq ?_
    refine C_region ?_
    refine V_y (Y_loadA (Hp.part (off := 0) (n := 4) (ds := [.int .i64 s130.2.1.no, .int .i64 s130.2.1.capacity, .int .i64 s130.2.1.calendar, v136]) hH (i := 1) rfl rfl) Tryz.isAgg32 Tryz.sizeOf32 rfl) rfl rfl rfl ?_
    obtain ⟨A202, ht203, h204, hH205⟩ := Hp.freeze (Dw := False) (α := route_Skill) (v := v136) (l := s130.2.1.skills) hH (i := 0) rfl hA
    replace h139 := Sl.tr (Dw := False) h139 ht203
    replace hK := Tr.trans (Dw := False) hK ht203
    replace hB := Nat.le_trans hB ht203.ex.size
    replace hA := ht203.new
    replace hH : Hp w.heap.size A202 w133 (obC b24 [.int .i64 s130.2.1.no, .int .i64 s130.2.1.capacity, .int .i64 s130.2.1.calendar, v136] 32 :: obC b1 [.int .i64 s130.2.2.no, .int .i64 s130.2.2.capacity, .int .i64 s130.2.2.calendar, v138] 32 :: []) := hH205
    have h212 : (v136).oneCell' = true := by obtain ⟨_, _, e, _⟩ := Sl.form h204; rw [e]; rfl
    refine V_storeC (Dw := False) (off := 0) (ds := [.int .i64 s130.2.1.no, .int .i64 s130.2.1.capacity, .int .i64 s130.2.1.calendar, v136]) hH (i := 1) rfl Tryz.sizeOf32 rfl (Nat.le_of_ble_eq_true rfl) (by exact (List.forall_mem_cons.2 ⟨rfl, (List.forall_mem_cons.2 ⟨rfl, (List.forall_mem_cons.2 ⟨rfl, (List.forall_mem_cons.2 ⟨h212, (fun _ h => nomatch h)⟩)⟩)⟩)⟩)) rfl hB hA rfl rfl ?_
    intro w207 hH208 ht209
    replace h204 := Sl.tr (Dw := False) h204 ht209
    replace h139 := Sl.tr (Dw := False) h139 ht209
    replace hK := Tr.trans (Dw := False) hK ht209
    replace hB := Nat.le_trans hB ht209.ex.size
    replace hA := ht209.new
    replace hH : Hp w.heap.size A202 w207 (obC b24 [.int .i64 s130.2.1.no, .int .i64 s130.2.1.capacity, .int .i64 s130.2.1.calendar, v136] 32 :: obC b1 [.int .i64 s130.2.1.no, .int .i64 s130.2.1.capacity, .int .i64 s130.2.1.calendar, v136] 32 :: []) := hH208
    refine V_y (Y_assign rfl) rfl rfl rfl ?_
    refine V_to (fun _ _ => rfl) ?_
    obtain rfl := Option.some.inj hm
    refine C_ret ?_
    try simp only [↓inBlock_ret, ↓then_ret]
    exact retQ rfl (Res.l2 Tryz.results12 (RL.cell rfl (loadVar_agg (Hp.part (off := 0) (n := 4) (ds := [.int .i64 s130.2.1.no, .int .i64 s130.2.1.capacity, .int .i64 s130.2.1.calendar, v136]) hH (i := 1) rfl rfl) Tryz.isAgg32 Tryz.sizeOf32)) (RL.tmp rfl)) ⟨v136, rfl, (Sl.out (Dw := False) h204 hA0 hK), hK.kp⟩

set_option maxRecDepth 4000 in
set_option maxHeartbeats 4000000 in
theorem portref2_IsName_c (w : World) {A : Nat → Prop} (hA : ∀ b, w.heap.size ≤ b → A b) (s : ByteArray) {r : Bool} (hm : portref2_IsName s = some r) : Ret Tryz.prog 65 #[.string s] w fun v w' => v = .bool r ∧ Kp False w w' := by
  unfold portref2_IsName at hm
  refine enter Tryz.func65 rfl Tryz.ntmps65 rfl ?_
  have hA0 := hA
  have hB := Nat.le_refl w.heap.size
  have hK : Tr False w.heap.size A w A w := Tr.refl (Dw := False) hA
  have hH : Hp w.heap.size A w [] := Hp.nil
  refine C_seq ?_
  refine C_region ?_
  refine V_y (Y_assign rfl) rfl rfl rfl ?_
  refine V_to (fun _ _ => rfl) ?_
  refine C_seq ?_
  obtain ⟨s2, ho1, hm⟩ := Option.bind_eq_some_iff.1 hm
  refine C_cutG (ι := (Nat → Prop)) (fun (A7 : (Nat → Prop)) => [(2, .bool s2)]) (fun (A7 : (Nat → Prop)) => fun w' => Hp w.heap.size A7 w' ([]) ∧ Tr False w.heap.size A w A7 w') ?_ ?_
  · have hr3 : Tr False w.heap.size A w A w := Tr.refl (Dw := False) hA
    refine C_region ?_
    refine V_y (Y_move rfl) rfl rfl rfl ?_
    refine V_y (Y_lenStr rfl Tryz.underlying9 rfl) rfl rfl rfl ?_
    refine V_y (Y_geq rfl rfl) rfl rfl rfl ?_
    refine V_y (Y_move rfl) rfl rfl rfl ?_
    rcases Bool.eq_false_or_eq_true (decide ((1 : Int) ≤ (s.size : Int))) with hc9 | hc9
    · rw [if_pos hc9] at ho1
      refine V_ge rfl rfl rfl hc9 ?_
      refine V_y (Y_move rfl) rfl rfl rfl ?_
      refine V_ge rfl rfl rfl hc9 ?_
      refine V_y (Y_lenStr rfl Tryz.underlying9 rfl) rfl rfl rfl ?_
      refine V_ge rfl rfl rfl hc9 ?_
      refine V_y (Y_leq rfl rfl) rfl rfl rfl ?_
      refine V_y (Y_pick_te rfl hc9 rfl) rfl rfl rfl ?_
      refine V_y (Y_move rfl) rfl rfl rfl ?_
      rcases Bool.eq_false_or_eq_true (decide ((s.size : Int) ≤ 20)) with hc10 | hc10
      · rw [if_pos hc10] at ho1
        refine V_ge rfl rfl rfl hc10 ?_
        refine V_y (Y_move rfl) rfl rfl rfl ?_
        refine V_ge rfl rfl rfl hc10 ?_
        obtain ⟨x11, hx11, ho1⟩ := Option.bind_eq_some_iff.1 ho1
        refine V_call Tryz.call77 rfl rfl rfl rfl (strings_Trim_c w hA s (⟨#[97, 98, 99, 100, 101, 102, 103, 104, 105, 106, 107, 108, 109, 110, 111, 112, 113, 114, 115, 116, 117, 118, 119, 120, 121, 122, 48, 49, 50, 51, 52, 53, 54, 55, 56, 57, 95]⟩ : ByteArray) hx11) ?_
        rintro _ w12 ⟨rfl, hk13⟩
        have ht14 := Kp.tr (Dw := False) hk13 hA hB
        replace hH := Hp.kp (Dw := False) hH hk13
        replace hK := Tr.trans (Dw := False) hK ht14
        replace hr3 := Tr.trans (Dw := False) hr3 ht14
        replace hB := Nat.le_trans hB ht14.ex.size
        replace hA := ht14.new
        refine V_ge rfl rfl rfl hc10 ?_
        refine V_y (Y_seql rfl rfl) rfl rfl rfl ?_
        refine V_y (Y_pick_te rfl hc10 rfl) rfl rfl rfl ?_
        refine V_y (Y_assign rfl) rfl rfl rfl ?_
        obtain rfl := Option.some.inj ho1
        refine V_end (fun a ha15 => ?_)
        exact ⟨A, ha15.sub ⟨rfl, trivial⟩, ⟨hH, hr3⟩⟩
      · rw [if_neg (nt hc10)] at ho1
        refine V_gn rfl rfl rfl hc10 rfl rfl rfl ?_
        refine V_gn rfl rfl rfl hc10 rfl rfl rfl ?_
        refine V_gn rfl rfl rfl hc10 rfl rfl rfl ?_
        refine V_y (Y_pick_fe rfl hc10 rfl) rfl rfl rfl ?_
        refine V_y (Y_assign rfl) rfl rfl rfl ?_
        obtain rfl := Option.some.inj ho1
        refine V_end (fun a ha16 => ?_)
        exact ⟨A, ha16.sub ⟨rfl, trivial⟩, ⟨hH, hr3⟩⟩
    · rw [if_neg (nt hc9)] at ho1
      refine V_gn rfl rfl rfl hc9 rfl rfl rfl ?_
      refine V_gn rfl rfl rfl hc9 rfl rfl rfl ?_
      refine V_gn rfl rfl rfl hc9 rfl rfl rfl ?_
      refine V_y (Y_pick_fe rfl hc9 rfl) rfl rfl rfl ?_
      refine V_y (Y_move rfl) rfl rfl rfl ?_
      rcases Bool.eq_false_or_eq_true (false) with hc17 | hc17
      · rw [if_pos hc17] at ho1
        refine V_ge rfl rfl rfl hc17 ?_
        refine V_y (Y_move rfl) rfl rfl rfl ?_
        refine V_ge rfl rfl rfl hc17 ?_
        obtain ⟨x18, hx18, ho1⟩ := Option.bind_eq_some_iff.1 ho1
        refine V_call Tryz.call77 rfl rfl rfl rfl (strings_Trim_c w hA s (⟨#[97, 98, 99, 100, 101, 102, 103, 104, 105, 106, 107, 108, 109, 110, 111, 112, 113, 114, 115, 116, 117, 118, 119, 120, 121, 122, 48, 49, 50, 51, 52, 53, 54, 55, 56, 57, 95]⟩ : ByteArray) hx18) ?_
        rintro _ w19 ⟨rfl, hk20⟩
        have ht21 := Kp.tr (Dw := False) hk20 hA hB
        replace hH := Hp.kp (Dw := False) hH hk20
        replace hK := Tr.trans (Dw := False) hK ht21
        replace hr3 := Tr.trans (Dw := False) hr3 ht21
        replace hB := Nat.le_trans hB ht21.ex.size
        replace hA := ht21.new
        refine V_ge rfl rfl rfl hc17 ?_
        refine V_y (Y_seql rfl rfl) rfl rfl rfl ?_
        refine V_y (Y_pick_te rfl hc17 rfl) rfl rfl rfl ?_
        refine V_y (Y_assign rfl) rfl rfl rfl ?_
        obtain rfl := Option.some.inj ho1
        refine V_end (fun a ha22 => ?_)
        exact ⟨A, ha22.sub ⟨rfl, trivial⟩, ⟨hH, hr3⟩⟩
      · rw [if_neg (nt hc17)] at ho1
        refine V_gn rfl rfl rfl hc17 rfl rfl rfl ?_
        refine V_gn rfl rfl rfl hc17 rfl rfl rfl ?_
        refine V_gn rfl rfl rfl hc17 rfl rfl rfl ?_
        refine V_y (Y_pick_fe rfl hc17 rfl) rfl rfl rfl ?_
        refine V_y (Y_assign rfl) rfl rfl rfl ?_
        obtain rfl := Option.some.inj ho1
        refine V_end (fun a ha23 => ?_)
        exact ⟨A, ha23.sub ⟨rfl, trivial⟩, ⟨hH, hr3⟩⟩
  rintro A7 w4 ⟨hH8, hk5⟩ a ha6
  replace hK := Tr.trans (Dw := False) hK hk5
  replace hB := Nat.le_trans hB hk5.ex.size
  replace hA := hk5.new
  replace hH : Hp w.heap.size A7 w4 ([]) := hH8
  refine C_at (n := ⟨16, [], none⟩) (fun _ _ => rfl) ?_ ha6
  obtain rfl := Option.some.inj hm
  refine C_ret ?_
  try simp only [↓inBlock_ret, ↓then_ret]
  exact retQ rfl (Res.one Tryz.results65 rfl) ⟨rfl, hK.kp⟩

set_option maxRecDepth 4000 in
set_option maxHeartbeats 4000000 in
theorem portref2_skillsFault_c (w : World) {A : Nat → Prop} (hA : ∀ b, w.heap.size ≤ b → A b) (l : (List route_Skill)) (v_l : Value) (h_l : Sl A w v_l l) {r : Int} (hm : portref2_skillsFault l = some r) : Ret Tryz.prog 53 #[v_l] w fun v w' => v = .int .i64 r ∧ Kp False w w' := by
  unfold portref2_skillsFault at hm
  refine enter Tryz.func53 rfl Tryz.ntmps53 rfl ?_
  have hA0 := hA
  have hB := Nat.le_refl w.heap.size
  have hK : Tr False w.heap.size A w A w := Tr.refl (Dw := False) hA
  have hH : Hp w.heap.size A w [] := Hp.nil
  refine C_seq ?_
  refine C_region ?_
  refine V_y (Y_assign rfl) rfl rfl rfl ?_
  refine V_to (fun _ _ => rfl) ?_
  refine C_seq ?_
  refine C_seq ?_
  refine C_region ?_
  refine V_y (Y_move rfl) rfl rfl rfl ?_
  refine V_y (Y_lenSl h_l rfl Tryz.underlying30 rfl) rfl rfl rfl ?_
  refine V_y (Y_gtr rfl rfl) rfl rfl rfl ?_
  refine V_to (fun _ _ => rfl) ?_
  refine C_cond rfl (fun hc3 => ?_) (fun hc3 => ?_)
  · rw [if_pos hc3] at hm
    refine C_seq ?_
    refine C_region ?_
    refine V_y (Y_assign rfl) rfl rfl rfl ?_
    refine V_to (fun _ _ => rfl) ?_
    obtain rfl := Option.some.inj hm
    refine C_ret ?_
    try simp only [↓inBlock_ret, ↓then_ret]
    exact retQ rfl (Res.one Tryz.results53 rfl) ⟨rfl, hK.kp⟩
  · rw [if_neg (nt hc3)] at hm
    refine C_skip_to (fun _ _ => rfl) ?_
    refine C_seq ?_
    refine C_seq ?_
    refine C_region ?_
    refine V_y (Y_move rfl) rfl rfl rfl ?_
    refine V_y (Y_lenSl h_l rfl Tryz.underlying30 rfl) rfl rfl rfl ?_
    refine V_y (Y_move rfl) rfl rfl rfl ?_
    refine V_to (fun _ _ => rfl) ?_
    have hn25 := Sl.le h_l
    obtain ⟨o4, ho4, hm⟩ := Option.bind_eq_some_iff.1 hm
    refine C_cutG (ι := (Unit × (Nat → Prop))) (fun ⟨s5, A12⟩ => []) (fun ⟨s5, A12⟩ => fun w' => o4 = .fin s5 ∧ Hp w.heap.size A12 w' ([]) ∧ Tr False w.heap.size A w A12 w') ?_ ?_
    · refine C_block ?_
      refine C_range ho4 (fun k7 _ a w' => ∃ i : (Nat → Prop), Has ⟨44, [], none⟩ a ([(0, v_l), (8, v_l), (9, .int .i64 (l.length : Int)), (10, .int .i64 (k7 : Int))]) ∧ Hp w.heap.size i w' ([]) ∧ Tr False w.heap.size A w i w') (fun a ha => ⟨A, ha.sub ⟨rfl, rfl, rfl, rfl, trivial⟩, ⟨hH, Tr.refl (Dw := False) hA⟩⟩) ?_
      rintro K k7 _ a w15 ⟨A16, ha65, hH17, hr6⟩ hle21 K24 h23
      refine C_of ?_ ha65
      replace h_l := Sl.tr (Dw := False) h_l hr6
      replace hK := Tr.trans (Dw := False) hK hr6
      replace hB := Nat.le_trans hB hr6.ex.size
      replace hA := hr6.new
      replace hH : Hp w.heap.size A16 w15 ([]) := hH17
      refine C_seq (C_region (V_y (Y_lss rfl rfl) rfl rfl rfl (V_to (fun _ _ => rfl) ?_)))
      refine C_seq ?_
      refine C_cond rfl (fun hc26 => ?_) (fun hc26 => ?_)
      · have hlt22 := lt_of_dec hc26
        obtain ⟨x18, h19, h20⟩ := K24 hlt22
        refine C_skip_to (fun _ _ => rfl) ?_
        refine C_seq ?_
        refine C_block ?_
        refine C_seq ?_
        refine C_region ?_
        refine V_y (Y_move rfl) rfl rfl rfl ?_
        obtain ⟨x27, hx27, h19⟩ := Option.bind_eq_some_iff.1 h19
        refine V_indexAddr h_l hx27 Tryz.underlying30 Tryz.sizeOf102 rfl rfl rfl ?_
        intro b28 o29 h30
        obtain ⟨h31, _⟩ := El_route_Skill h30
        refine V_y (Y_loadA h31 Tryz.isAgg102 Tryz.sizeOf102 rfl) rfl rfl rfl ?_
        refine V_alloc Tryz.zeroValue102 rfl ?_
        intro b32 w33 h34
        refine V_y (Y_assign rfl) rfl rfl rfl ?_
        refine V_storeNew h34 Tryz.sizeOf102 rfl rfl rfl rfl (by exact (List.forall_mem_cons.2 ⟨rfl, (List.forall_mem_cons.2 ⟨rfl, (fun _ h => nomatch h)⟩)⟩)) ?_
        intro w35 h36
        have hk38 := h36.kp (Dw := False)
        have h37 : El (α := route_Skill) A16 w35 b32 0 x27 := h36.el hA ⟨[.string x27.name], _, rfl, rfl, rfl⟩
        have ht39 := Kp.tr (Dw := False) hk38 hA hB
        replace hH := Hp.kp (Dw := False) hH hk38
        replace h_l := Sl.tr (Dw := False) h_l ht39
        replace h30 := El.tr (Dw := False) h30 ht39
        replace hK := Tr.trans (Dw := False) hK ht39
        replace hr6 := Tr.trans (Dw := False) hr6 ht39
        replace hB := Nat.le_trans hB ht39.ex.size
        replace hA := ht39.new
        refine V_to (fun _ _ => rfl) ?_
        refine C_block ?_
        refine C_seq ?_
        refine C_region ?_
        have h40 := El_route_Skill_0 h37
        refine V_y (Y_fieldAddr Tryz.underlying102 rfl Tryz.sizeOf9 (by decide) rfl) rfl rfl rfl ?_
        refine V_y (Y_load (El.str h40) Tryz.isAgg9 rfl) rfl rfl rfl ?_
        obtain ⟨x41, hx41, h19⟩ := Option.bind_eq_some_iff.1 h19
        refine V_call Tryz.call65 rfl rfl rfl rfl (portref2_IsName_c w35 hA x27.name hx41) ?_
        rintro _ w42 ⟨rfl, hk43⟩
        have ht44 := Kp.tr (Dw := False) hk43 hA hB
        replace hH := Hp.kp (Dw := False) hH hk43
        replace h_l := Sl.tr (Dw := False) h_l ht44
        replace h37 := El.tr (Dw := False) h37 ht44
        replace h40 := El.tr (Dw := False) h40 ht44
        replace hK := Tr.trans (Dw := False) hK ht44
        replace hr6 := Tr.trans (Dw := False) hr6 ht44
        replace hB := Nat.le_trans hB ht44.ex.size
        replace hA := ht44.new
        refine V_y (Y_not rfl) rfl rfl rfl ?_
        refine V_y (Y_assign rfl) rfl rfl rfl ?_
        refine V_to (fun _ _ => rfl) ?_
        refine C_cond rfl (fun hc45 => ?_) (fun hc45 => ?_)
        · rw [if_pos hc45] at h19
          refine C_seq ?_
          refine C_region ?_
          refine V_y (Y_assign rfl) rfl rfl rfl ?_
          refine V_to (fun _ _ => rfl) ?_
          obtain rfl := Option.some.inj h19
          obtain rfl := (h20 : Lp.rt _ = _)
          rw [Lp.andThen_rt] at hm
          obtain rfl := Option.some.inj hm
          refine C_ret ?_
          try simp only [↓inBlock_ret, ↓then_ret]
          exact retQ rfl (Res.one Tryz.results53 rfl) ⟨rfl, hK.kp⟩
        · rw [if_neg (nt hc45)] at h19
          refine C_seq ?_
          refine C_region_q (Dw := False) Tryz_mixed (by kernel_rfl) ?_
          refine VQ_y (fun w' hw' => Y_move rfl) rfl rfl rfl ?_
          refine VQ_y (fun w' hw' => Y_gtr rfl rfl) rfl rfl rfl ?_
          refine VQ_y (fun w' hw' => Y_move rfl) rfl rfl rfl ?_
          obtain ⟨s47, hs47, h19⟩ := Option.bind_eq_some_iff.1 h19
          refine VQ_cut 10 (fun _ : Unit => [(0, v_l), (4, .pointer (some ⟨b32, 0, none⟩)), (8, v_l), (9, .int .i64 (l.length : Int)), (10, .int .i64 (k7 : Int)), (33, .bool s47)]) (fun _ => True) ?_ ?_
          · simp only [List.take, List.drop]
            rcases Bool.eq_false_or_eq_true (decide ((0 : Int) < (k7 : Int))) with hc46 | hc46
            · rw [if_pos hc46] at hs47
              refine VQ_ge rfl rfl rfl hc46 ?_
              have h48 := El_route_Skill_0 h37
              refine VQ_y (fun w' hw' => Y_fieldAddr Tryz.underlying102 rfl Tryz.sizeOf9 (by decide) rfl) rfl rfl rfl ?_
              refine VQ_ge rfl rfl rfl hc46 ?_
              refine VQ_y (fun w' hw' => Y_load (El.str (El.kp (Dw := False) h48 hw')) Tryz.isAgg9 rfl) rfl rfl rfl ?_
              refine VQ_ge rfl rfl rfl hc46 ?_
              refine VQ_y (fun w' hw' => Y_move rfl) rfl rfl rfl ?_
              refine VQ_ge rfl rfl rfl hc46 ?_
              refine VQ_y (fun w' hw' => Y_move rfl) rfl rfl rfl ?_
              refine VQ_ge rfl rfl rfl hc46 ?_
              refine VQ_y (fun w' hw' => Y_subI rfl rfl) rfl rfl rfl ?_
              refine VQ_ge rfl rfl rfl hc46 ?_
              obtain ⟨x49, hx49, hs47⟩ := Option.bind_eq_some_iff.1 hs47
              refine VQ_indexAddr h_l hx49 Tryz.underlying30 Tryz.sizeOf102 rfl rfl rfl ?_
              intro b50 o51 h52
              refine VQ_ge rfl rfl rfl hc46 ?_
              have h53 := El_route_Skill_0 h52
              refine VQ_y (fun w' hw' => Y_fieldAddr Tryz.underlying102 rfl Tryz.sizeOf9 (by decide) rfl) rfl rfl rfl ?_
              refine VQ_ge rfl rfl rfl hc46 ?_
              refine VQ_y (fun w' hw' => Y_load (El.str (El.kp (Dw := False) h53 hw')) Tryz.isAgg9 rfl) rfl rfl rfl ?_
              refine VQ_ge rfl rfl rfl hc46 ?_
              refine VQ_y (fun w' hw' => Y_sleq rfl rfl) rfl rfl rfl ?_
              refine VQ_y (fun _ _ => Y_pick_te rfl hc46 rfl) rfl rfl rfl ?_
              obtain rfl := Option.some.inj hs47
              exact VQ_end fun a ha => ⟨(), ha.sub ⟨rfl, rfl, rfl, rfl, rfl, rfl, trivial⟩, trivial⟩
            · rw [if_neg (nt hc46)] at hs47
              refine VQ_gn rfl rfl rfl hc46 rfl rfl rfl ?_
              refine VQ_gn rfl rfl rfl hc46 rfl rfl rfl ?_
              refine VQ_gn rfl rfl rfl hc46 rfl rfl rfl ?_
              refine VQ_gn rfl rfl rfl hc46 rfl rfl rfl ?_
              refine VQ_gn rfl rfl rfl hc46 rfl rfl rfl ?_
              refine VQ_gn rfl rfl rfl hc46 rfl rfl rfl ?_
              refine VQ_gn rfl rfl rfl hc46 rfl rfl rfl ?_
              refine VQ_gn rfl rfl rfl hc46 rfl rfl rfl ?_
              refine VQ_gn rfl rfl rfl hc46 rfl rfl rfl ?_
              refine VQ_y (fun _ _ => Y_pick_fe rfl hc46 rfl) rfl rfl rfl ?_
              obtain rfl := Option.some.inj hs47
              exact VQ_end fun a ha => ⟨(), ha.sub ⟨rfl, rfl, rfl, rfl, rfl, rfl, trivial⟩, trivial⟩
          simp only [List.take, List.drop]
          rintro _ _
          refine VQ_y (fun w' hw' => Y_assign rfl) rfl rfl rfl ?_
          refine VQ_to (fun _ _ => rfl) (fun w54 hk55 => ?_)
          have ht56 := Kp.tr (Dw := False) hk55 hA hB
          replace hH := Hp.kp (Dw := False) hH hk55
          replace h_l := Sl.tr (Dw := False) h_l ht56
          replace h37 := El.tr (Dw := False) h37 ht56
          replace hK := Tr.trans (Dw := False) hK ht56
          replace hr6 := Tr.trans (Dw := False) hr6 ht56
          replace hB := Nat.le_trans hB ht56.ex.size
          replace hA := ht56.new
          refine C_cond rfl (fun hc57 => ?_) (fun hc57 => ?_)
          · rw [if_pos hc57] at h19
            refine C_seq ?_
            refine C_region ?_
            refine V_y (Y_assign rfl) rfl rfl rfl ?_
            refine V_to (fun _ _ => rfl) ?_
            obtain rfl := Option.some.inj h19
            obtain rfl := (h20 : Lp.rt _ = _)
            rw [Lp.andThen_rt] at hm
            obtain rfl := Option.some.inj hm
            refine C_ret ?_
            try simp only [↓inBlock_ret, ↓then_ret]
            exact retQ rfl (Res.one Tryz.results53 rfl) ⟨rfl, hK.kp⟩
          · rw [if_neg (nt hc57)] at h19
            refine C_seq ?_
            refine C_region ?_
            have h58 := El_route_Skill_1 h37
            refine V_y (Y_fieldAddr Tryz.underlying102 rfl Tryz.sizeOf3 (by decide) rfl) rfl rfl rfl ?_
            refine V_y (Y_load (El.int h58) Tryz.isAgg3 rfl) rfl rfl rfl ?_
            refine V_y (Y_lss rfl rfl) rfl rfl rfl ?_
            refine V_y (Y_move rfl) rfl rfl rfl ?_
            refine V_cut 4 (fun _ : Unit => [(0, v_l), (8, v_l), (9, .int .i64 (l.length : Int)), (10, .int .i64 (k7 : Int)), (42, .bool ((decide (x27.rank < 1)) || (decide ((9 : Int) < x27.rank))))]) (fun _ w' => w54 = w') ?_ ?_
            · simp only [List.take, List.drop]
              rcases Bool.eq_false_or_eq_true (decide (x27.rank < 1)) with hc59 | hc59
              · refine V_gn rfl rfl rfl hc59 rfl rfl rfl ?_
                refine V_gn rfl rfl rfl hc59 rfl rfl rfl ?_
                refine V_gn rfl rfl rfl hc59 rfl rfl rfl ?_
                refine V_y (Y_pick_te rfl hc59 rfl) rfl rfl rfl ?_
                exact V_end fun a ha => ⟨(), ha.sub ⟨rfl, rfl, rfl, rfl, (by rw [hc59]; rfl), trivial⟩, rfl⟩
              · refine V_ge rfl rfl rfl hc59 ?_
                have h61 := El_route_Skill_1 h37
                refine V_y (Y_fieldAddr Tryz.underlying102 rfl Tryz.sizeOf3 (by decide) rfl) rfl rfl rfl ?_
                refine V_ge rfl rfl rfl hc59 ?_
                refine V_y (Y_load (El.int h61) Tryz.isAgg3 rfl) rfl rfl rfl ?_
                refine V_ge rfl rfl rfl hc59 ?_
                refine V_y (Y_gtr rfl rfl) rfl rfl rfl ?_
                refine V_y (Y_pick_fe rfl hc59 rfl) rfl rfl rfl ?_
                exact V_end fun a ha => ⟨(), ha.sub ⟨rfl, rfl, rfl, rfl, (by rw [hc59]; rfl), trivial⟩, rfl⟩
            simp only [List.take, List.drop]
            rintro _ _ rfl
            refine V_y (Y_assign rfl) rfl rfl rfl ?_
            refine V_to (fun _ _ => rfl) ?_
            refine C_cond rfl (fun hc62 => ?_) (fun hc62 => ?_)
            · rw [if_pos hc62] at h19
              refine C_seq ?_
              refine C_region ?_
              refine V_y (Y_assign rfl) rfl rfl rfl ?_
              refine V_to (fun _ _ => rfl) ?_
              obtain rfl := Option.some.inj h19
              obtain rfl := (h20 : Lp.rt _ = _)
              rw [Lp.andThen_rt] at hm
              obtain rfl := Option.some.inj hm
              refine C_ret ?_
              try simp only [↓inBlock_ret, ↓then_ret]
              exact retQ rfl (Res.one Tryz.results53 rfl) ⟨rfl, hK.kp⟩
            · rw [if_neg (nt hc62)] at h19
              refine C_skip_to (fun _ _ => rfl) ?_
              refine C_region ?_
              refine V_y (Y_addI rfl rfl) rfl rfl rfl ?_
              refine V_y (Y_move rfl) rfl rfl rfl ?_
              obtain rfl := Option.some.inj h19
              refine V_end (fun a ha63 => ?_)
              exact ⟨(), hlt22, h20, ⟨A16, ha63.sub ⟨rfl, rfl, rfl, (congrArg (fun z => some (Value.int .i64 z)) (w64_succ hlt22 hn25)), trivial⟩, ⟨hH, hr6⟩⟩⟩
      · refine C_exit (fun a ha64 => ?_)
        exact ⟨((), A16), ha64.sub trivial, ⟨(h23 (eq_of_dec hle21 hc26)).symm, hH, hr6⟩⟩
    rintro ⟨s5, A12⟩ w9 ⟨rfl, hH13, hk10⟩ a ha11
    rw [Lp.andThen_fin] at hm
    replace hK := Tr.trans (Dw := False) hK hk10
    replace hB := Nat.le_trans hB hk10.ex.size
    replace hA := hk10.new
    replace hH : Hp w.heap.size A12 w9 ([]) := hH13
    refine C_at (n := ⟨44, [], none⟩) (fun _ _ => rfl) ?_ ha11
    refine C_seq ?_
    refine C_region ?_
    refine V_y (Y_assign rfl) rfl rfl rfl ?_
    refine V_to (fun _ _ => rfl) ?_
    obtain rfl := Option.some.inj hm
    refine C_ret ?_
    try simp only [↓inBlock_ret, ↓then_ret]
    exact retQ rfl (Res.one Tryz.results53 rfl) ⟨rfl, hK.kp⟩

set_option maxRecDepth 4000 in
set_option maxHeartbeats 4000000 in
theorem portref2_PeopleFault_c (w : World) {A : Nat → Prop} (hA : ∀ b, w.heap.size ≤ b → A b) (l : (List route_Person)) (v_l : Value) (h_l : Sl A w v_l l) {r : Int} (hm : portref2_PeopleFault l = some r) : Ret Tryz.prog 13 #[v_l] w fun v w' => v = .int .i64 r ∧ Kp False w w' := by
  unfold portref2_PeopleFault at hm
  refine enter Tryz.func13 rfl Tryz.ntmps13 rfl ?_
  have hA0 := hA
  have hB := Nat.le_refl w.heap.size
  have hK : Tr False w.heap.size A w A w := Tr.refl (Dw := False) hA
  have hH : Hp w.heap.size A w [] := Hp.nil
  refine C_seq ?_
  refine C_region ?_
  refine V_y (Y_assign rfl) rfl rfl rfl ?_
  refine V_to (fun _ _ => rfl) ?_
  refine C_seq ?_
  refine C_seq ?_
  refine C_region ?_
  refine V_y (Y_move rfl) rfl rfl rfl ?_
  refine V_y (Y_lenSl h_l rfl Tryz.underlying22 rfl) rfl rfl rfl ?_
  refine V_y (Y_gtr rfl rfl) rfl rfl rfl ?_
  refine V_to (fun _ _ => rfl) ?_
  refine C_cond rfl (fun hc3 => ?_) (fun hc3 => ?_)
  · rw [if_pos hc3] at hm
    refine C_seq ?_
    refine C_region ?_
    refine V_y (Y_assign rfl) rfl rfl rfl ?_
    refine V_to (fun _ _ => rfl) ?_
    obtain rfl := Option.some.inj hm
    refine C_ret ?_
    try simp only [↓inBlock_ret, ↓then_ret]
    exact retQ rfl (Res.one Tryz.results13 rfl) ⟨rfl, hK.kp⟩
  · rw [if_neg (nt hc3)] at hm
    refine C_skip_to (fun _ _ => rfl) ?_
    refine C_seq ?_
    refine C_seq ?_
    refine C_region ?_
    refine V_y (Y_move rfl) rfl rfl rfl ?_
    refine V_y (Y_lenSl h_l rfl Tryz.underlying22 rfl) rfl rfl rfl ?_
    refine V_y (Y_move rfl) rfl rfl rfl ?_
    refine V_to (fun _ _ => rfl) ?_
    have hn25 := Sl.le h_l
    obtain ⟨o4, ho4, hm⟩ := Option.bind_eq_some_iff.1 hm
    refine C_cutG (ι := (Unit × (Nat → Prop))) (fun ⟨s5, A12⟩ => []) (fun ⟨s5, A12⟩ => fun w' => o4 = .fin s5 ∧ Hp w.heap.size A12 w' ([]) ∧ Tr False w.heap.size A w A12 w') ?_ ?_
    · refine C_block ?_
      refine C_range ho4 (fun k7 _ a w' => ∃ i : (Nat → Prop), Has ⟨65, [], none⟩ a ([(0, v_l), (9, v_l), (10, .int .i64 (l.length : Int)), (11, .int .i64 (k7 : Int))]) ∧ Hp w.heap.size i w' ([]) ∧ Tr False w.heap.size A w i w') (fun a ha => ⟨A, ha.sub ⟨rfl, rfl, rfl, rfl, trivial⟩, ⟨hH, Tr.refl (Dw := False) hA⟩⟩) ?_
      rintro K k7 _ a w15 ⟨A16, ha84, hH17, hr6⟩ hle21 K24 h23
      refine C_of ?_ ha84
      replace h_l := Sl.tr (Dw := False) h_l hr6
      replace hK := Tr.trans (Dw := False) hK hr6
      replace hB := Nat.le_trans hB hr6.ex.size
      replace hA := hr6.new
      replace hH : Hp w.heap.size A16 w15 ([]) := hH17
      refine C_seq (C_region (V_y (Y_lss rfl rfl) rfl rfl rfl (V_to (fun _ _ => rfl) ?_)))
      refine C_seq ?_
      refine C_cond rfl (fun hc26 => ?_) (fun hc26 => ?_)
      · have hlt22 := lt_of_dec hc26
        obtain ⟨x18, h19, h20⟩ := K24 hlt22
        refine C_skip_to (fun _ _ => rfl) ?_
        refine C_seq ?_
        refine C_block ?_
        refine C_seq ?_
        refine C_region ?_
        refine V_y (Y_move rfl) rfl rfl rfl ?_
        obtain ⟨x27, hx27, h19⟩ := Option.bind_eq_some_iff.1 h19
        refine V_indexAddr h_l hx27 Tryz.underlying22 Tryz.sizeOf32 rfl rfl rfl ?_
        intro b28 o29 h30
        obtain ⟨v31, h33, h32⟩ := El_route_Person h30
        refine V_y (Y_loadA h33 Tryz.isAgg32 Tryz.sizeOf32 rfl) rfl rfl rfl ?_
        refine V_alloc Tryz.zeroValue32 rfl ?_
        intro b34 w35 h36
        refine V_y (Y_assign rfl) rfl rfl rfl ?_
        have h41 : (v31).oneCell' = true := by obtain ⟨_, _, e, _⟩ := Sl.form h32; rw [e]; rfl
        refine V_storeNew h36 Tryz.sizeOf32 rfl rfl rfl rfl (by exact (List.forall_mem_cons.2 ⟨rfl, (List.forall_mem_cons.2 ⟨rfl, (List.forall_mem_cons.2 ⟨rfl, (List.forall_mem_cons.2 ⟨h41, (fun _ h => nomatch h)⟩)⟩)⟩)⟩)) ?_
        intro w37 h38
        have hk43 := h38.kp (Dw := False)
        have h42 : El (α := route_Person) A16 w37 b34 0 x27 := h38.el hA ⟨[.int .i64 x27.no], _, rfl, rfl, ⟨[.int .i64 x27.capacity], _, rfl, rfl, ⟨[.int .i64 x27.calendar], _, rfl, rfl, ⟨_, rfl, h32⟩⟩⟩⟩
        have ht44 := Kp.tr (Dw := False) hk43 hA hB
        replace hH := Hp.kp (Dw := False) hH hk43
        replace h_l := Sl.tr (Dw := False) h_l ht44
        replace h30 := El.tr (Dw := False) h30 ht44
        replace h32 := Sl.tr (Dw := False) h32 ht44
        replace hK := Tr.trans (Dw := False) hK ht44
        replace hr6 := Tr.trans (Dw := False) hr6 ht44
        replace hB := Nat.le_trans hB ht44.ex.size
        replace hA := ht44.new
        refine V_to (fun _ _ => rfl) ?_
        refine C_seq ?_
        refine C_block ?_
        refine C_seq ?_
        refine C_region ?_
        have h45 := El_route_Person_0 h42
        refine V_y (Y_fieldAddr Tryz.underlying32 rfl Tryz.sizeOf3 (by decide) rfl) rfl rfl rfl ?_
        refine V_y (Y_load (El.int h45) Tryz.isAgg3 rfl) rfl rfl rfl ?_
        refine V_y (Y_lss rfl rfl) rfl rfl rfl ?_
        refine V_y (Y_move rfl) rfl rfl rfl ?_
        refine V_cut 4 (fun _ : Unit => [(0, v_l), (3, .int .i64 (k7 : Int)), (4, .pointer (some ⟨b34, 0, none⟩)), (9, v_l), (10, .int .i64 (l.length : Int)), (11, .int .i64 (k7 : Int)), (24, .bool ((decide (x27.no < 1)) || (decide ((40 : Int) < x27.no))))]) (fun _ w' => w37 = w') ?_ ?_
        · simp only [List.take, List.drop]
          rcases Bool.eq_false_or_eq_true (decide (x27.no < 1)) with hc46 | hc46
          · refine V_gn rfl rfl rfl hc46 rfl rfl rfl ?_
            refine V_gn rfl rfl rfl hc46 rfl rfl rfl ?_
            refine V_gn rfl rfl rfl hc46 rfl rfl rfl ?_
            refine V_y (Y_pick_te rfl hc46 rfl) rfl rfl rfl ?_
            exact V_end fun a ha => ⟨(), ha.sub ⟨rfl, rfl, rfl, rfl, rfl, rfl, (by rw [hc46]; rfl), trivial⟩, rfl⟩
          · refine V_ge rfl rfl rfl hc46 ?_
            have h48 := El_route_Person_0 h42
            refine V_y (Y_fieldAddr Tryz.underlying32 rfl Tryz.sizeOf3 (by decide) rfl) rfl rfl rfl ?_
            refine V_ge rfl rfl rfl hc46 ?_
            refine V_y (Y_load (El.int h48) Tryz.isAgg3 rfl) rfl rfl rfl ?_
            refine V_ge rfl rfl rfl hc46 ?_
            refine V_y (Y_gtr rfl rfl) rfl rfl rfl ?_
            refine V_y (Y_pick_fe rfl hc46 rfl) rfl rfl rfl ?_
            exact V_end fun a ha => ⟨(), ha.sub ⟨rfl, rfl, rfl, rfl, rfl, rfl, (by rw [hc46]; rfl), trivial⟩, rfl⟩
        simp only [List.take, List.drop]
        rintro _ _ rfl
        refine V_y (Y_assign rfl) rfl rfl rfl ?_
        refine V_to (fun _ _ => rfl) ?_
        refine C_cond rfl (fun hc49 => ?_) (fun hc49 => ?_)
        · rw [if_pos hc49] at h19
          refine C_seq ?_
          refine C_region ?_
          refine V_y (Y_assign rfl) rfl rfl rfl ?_
          refine V_to (fun _ _ => rfl) ?_
          obtain rfl := Option.some.inj h19
          obtain rfl := (h20 : Lp.rt _ = _)
          rw [Lp.andThen_rt] at hm
          obtain rfl := Option.some.inj hm
          refine C_ret ?_
          try simp only [↓inBlock_ret, ↓then_ret]
          exact retQ rfl (Res.one Tryz.results13 rfl) ⟨rfl, hK.kp⟩
        · rw [if_neg (nt hc49)] at h19
          refine C_seq ?_
          refine C_region_q (Dw := False) Tryz_mixed (by kernel_rfl) ?_
          refine VQ_y (fun w' hw' => Y_move rfl) rfl rfl rfl ?_
          refine VQ_y (fun w' hw' => Y_gtr rfl rfl) rfl rfl rfl ?_
          refine VQ_y (fun w' hw' => Y_move rfl) rfl rfl rfl ?_
          obtain ⟨s51, hs51, h19⟩ := Option.bind_eq_some_iff.1 h19
          refine VQ_cut 10 (fun _ : Unit => [(0, v_l), (4, .pointer (some ⟨b34, 0, none⟩)), (9, v_l), (10, .int .i64 (l.length : Int)), (11, .int .i64 (k7 : Int)), (38, .bool s51)]) (fun _ => True) ?_ ?_
          · simp only [List.take, List.drop]
            rcases Bool.eq_false_or_eq_true (decide ((0 : Int) < (k7 : Int))) with hc50 | hc50
            · rw [if_pos hc50] at hs51
              refine VQ_ge rfl rfl rfl hc50 ?_
              have h52 := El_route_Person_0 h42
              refine VQ_y (fun w' hw' => Y_fieldAddr Tryz.underlying32 rfl Tryz.sizeOf3 (by decide) rfl) rfl rfl rfl ?_
              refine VQ_ge rfl rfl rfl hc50 ?_
              refine VQ_y (fun w' hw' => Y_load (El.int (El.kp (Dw := False) h52 hw')) Tryz.isAgg3 rfl) rfl rfl rfl ?_
              refine VQ_ge rfl rfl rfl hc50 ?_
              refine VQ_y (fun w' hw' => Y_move rfl) rfl rfl rfl ?_
              refine VQ_ge rfl rfl rfl hc50 ?_
              refine VQ_y (fun w' hw' => Y_move rfl) rfl rfl rfl ?_
              refine VQ_ge rfl rfl rfl hc50 ?_
              refine VQ_y (fun w' hw' => Y_subI rfl rfl) rfl rfl rfl ?_
              refine VQ_ge rfl rfl rfl hc50 ?_
              obtain ⟨x53, hx53, hs51⟩ := Option.bind_eq_some_iff.1 hs51
              refine VQ_indexAddr h_l hx53 Tryz.underlying22 Tryz.sizeOf32 rfl rfl rfl ?_
              intro b54 o55 h56
              refine VQ_ge rfl rfl rfl hc50 ?_
              have h57 := El_route_Person_0 h56
              refine VQ_y (fun w' hw' => Y_fieldAddr Tryz.underlying32 rfl Tryz.sizeOf3 (by decide) rfl) rfl rfl rfl ?_
              refine VQ_ge rfl rfl rfl hc50 ?_
              refine VQ_y (fun w' hw' => Y_load (El.int (El.kp (Dw := False) h57 hw')) Tryz.isAgg3 rfl) rfl rfl rfl ?_
              refine VQ_ge rfl rfl rfl hc50 ?_
              refine VQ_y (fun w' hw' => Y_leq rfl rfl) rfl rfl rfl ?_
              refine VQ_y (fun _ _ => Y_pick_te rfl hc50 rfl) rfl rfl rfl ?_
              obtain rfl := Option.some.inj hs51
              exact VQ_end fun a ha => ⟨(), ha.sub ⟨rfl, rfl, rfl, rfl, rfl, rfl, trivial⟩, trivial⟩
            · rw [if_neg (nt hc50)] at hs51
              refine VQ_gn rfl rfl rfl hc50 rfl rfl rfl ?_
              refine VQ_gn rfl rfl rfl hc50 rfl rfl rfl ?_
              refine VQ_gn rfl rfl rfl hc50 rfl rfl rfl ?_
              refine VQ_gn rfl rfl rfl hc50 rfl rfl rfl ?_
              refine VQ_gn rfl rfl rfl hc50 rfl rfl rfl ?_
              refine VQ_gn rfl rfl rfl hc50 rfl rfl rfl ?_
              refine VQ_gn rfl rfl rfl hc50 rfl rfl rfl ?_
              refine VQ_gn rfl rfl rfl hc50 rfl rfl rfl ?_
              refine VQ_gn rfl rfl rfl hc50 rfl rfl rfl ?_
              refine VQ_y (fun _ _ => Y_pick_fe rfl hc50 rfl) rfl rfl rfl ?_
              obtain rfl := Option.some.inj hs51
              exact VQ_end fun a ha => ⟨(), ha.sub ⟨rfl, rfl, rfl, rfl, rfl, rfl, trivial⟩, trivial⟩
          simp only [List.take, List.drop]
          rintro _ _
          refine VQ_y (fun w' hw' => Y_assign rfl) rfl rfl rfl ?_
          refine VQ_to (fun _ _ => rfl) (fun w58 hk59 => ?_)
          have ht60 := Kp.tr (Dw := False) hk59 hA hB
          replace hH := Hp.kp (Dw := False) hH hk59
          replace h_l := Sl.tr (Dw := False) h_l ht60
          replace h42 := El.tr (Dw := False) h42 ht60
          replace hK := Tr.trans (Dw := False) hK ht60
          replace hr6 := Tr.trans (Dw := False) hr6 ht60
          replace hB := Nat.le_trans hB ht60.ex.size
          replace hA := ht60.new
          refine C_cond rfl (fun hc61 => ?_) (fun hc61 => ?_)
          · rw [if_pos hc61] at h19
            refine C_seq ?_
            refine C_region ?_
            refine V_y (Y_assign rfl) rfl rfl rfl ?_
            refine V_to (fun _ _ => rfl) ?_
            obtain rfl := Option.some.inj h19
            obtain rfl := (h20 : Lp.rt _ = _)
            rw [Lp.andThen_rt] at hm
            obtain rfl := Option.some.inj hm
            refine C_ret ?_
            try simp only [↓inBlock_ret, ↓then_ret]
            exact retQ rfl (Res.one Tryz.results13 rfl) ⟨rfl, hK.kp⟩
          · rw [if_neg (nt hc61)] at h19
            refine C_seq ?_
            refine C_region ?_
            have h62 := El_route_Person_1 h42
            refine V_y (Y_fieldAddr Tryz.underlying32 rfl Tryz.sizeOf3 (by decide) rfl) rfl rfl rfl ?_
            refine V_y (Y_load (El.int h62) Tryz.isAgg3 rfl) rfl rfl rfl ?_
            refine V_y (Y_lss rfl rfl) rfl rfl rfl ?_
            refine V_y (Y_move rfl) rfl rfl rfl ?_
            refine V_cut 4 (fun _ : Unit => [(0, v_l), (4, .pointer (some ⟨b34, 0, none⟩)), (9, v_l), (10, .int .i64 (l.length : Int)), (11, .int .i64 (k7 : Int)), (47, .bool ((decide (x27.capacity < 0)) || (decide ((100 : Int) < x27.capacity))))]) (fun _ w' => w58 = w') ?_ ?_
            · simp only [List.take, List.drop]
              rcases Bool.eq_false_or_eq_true (decide (x27.capacity < 0)) with hc63 | hc63
              · refine V_gn rfl rfl rfl hc63 rfl rfl rfl ?_
                refine V_gn rfl rfl rfl hc63 rfl rfl rfl ?_
                refine V_gn rfl rfl rfl hc63 rfl rfl rfl ?_
                refine V_y (Y_pick_te rfl hc63 rfl) rfl rfl rfl ?_
                exact V_end fun a ha => ⟨(), ha.sub ⟨rfl, rfl, rfl, rfl, rfl, (by rw [hc63]; rfl), trivial⟩, rfl⟩
              · refine V_ge rfl rfl rfl hc63 ?_
                have h65 := El_route_Person_1 h42
                refine V_y (Y_fieldAddr Tryz.underlying32 rfl Tryz.sizeOf3 (by decide) rfl) rfl rfl rfl ?_
                refine V_ge rfl rfl rfl hc63 ?_
                refine V_y (Y_load (El.int h65) Tryz.isAgg3 rfl) rfl rfl rfl ?_
                refine V_ge rfl rfl rfl hc63 ?_
                refine V_y (Y_gtr rfl rfl) rfl rfl rfl ?_
                refine V_y (Y_pick_fe rfl hc63 rfl) rfl rfl rfl ?_
                exact V_end fun a ha => ⟨(), ha.sub ⟨rfl, rfl, rfl, rfl, rfl, (by rw [hc63]; rfl), trivial⟩, rfl⟩
            simp only [List.take, List.drop]
            rintro _ _ rfl
            refine V_y (Y_move rfl) rfl rfl rfl ?_
            refine V_cut 4 (fun _ : Unit => [(0, v_l), (4, .pointer (some ⟨b34, 0, none⟩)), (9, v_l), (10, .int .i64 (l.length : Int)), (11, .int .i64 (k7 : Int)), (52, .bool (((decide (x27.capacity < 0)) || (decide ((100 : Int) < x27.capacity))) || (decide (x27.calendar < 0))))]) (fun _ w' => w58 = w') ?_ ?_
            · simp only [List.take, List.drop]
              rcases Bool.eq_false_or_eq_true (((decide (x27.capacity < 0)) || (decide ((100 : Int) < x27.capacity)))) with hc66 | hc66
              · refine V_gn rfl rfl rfl hc66 rfl rfl rfl ?_
                refine V_gn rfl rfl rfl hc66 rfl rfl rfl ?_
                refine V_gn rfl rfl rfl hc66 rfl rfl rfl ?_
                refine V_y (Y_pick_te rfl hc66 rfl) rfl rfl rfl ?_
                exact V_end fun a ha => ⟨(), ha.sub ⟨rfl, rfl, rfl, rfl, rfl, (by rw [hc66]; rfl), trivial⟩, rfl⟩
              · refine V_ge rfl rfl rfl hc66 ?_
                have h68 := El_route_Person_2 h42
                refine V_y (Y_fieldAddr Tryz.underlying32 rfl Tryz.sizeOf3 (by decide) rfl) rfl rfl rfl ?_
                refine V_ge rfl rfl rfl hc66 ?_
                refine V_y (Y_load (El.int h68) Tryz.isAgg3 rfl) rfl rfl rfl ?_
                refine V_ge rfl rfl rfl hc66 ?_
                refine V_y (Y_lss rfl rfl) rfl rfl rfl ?_
                refine V_y (Y_pick_fe rfl hc66 rfl) rfl rfl rfl ?_
                exact V_end fun a ha => ⟨(), ha.sub ⟨rfl, rfl, rfl, rfl, rfl, (by rw [hc66]; rfl), trivial⟩, rfl⟩
            simp only [List.take, List.drop]
            rintro _ _ rfl
            refine V_y (Y_move rfl) rfl rfl rfl ?_
            refine V_cut 4 (fun _ : Unit => [(0, v_l), (4, .pointer (some ⟨b34, 0, none⟩)), (9, v_l), (10, .int .i64 (l.length : Int)), (11, .int .i64 (k7 : Int)), (57, .bool ((((decide (x27.capacity < 0)) || (decide ((100 : Int) < x27.capacity))) || (decide (x27.calendar < 0))) || (decide ((20 : Int) ≤ x27.calendar))))]) (fun _ w' => w58 = w') ?_ ?_
            · simp only [List.take, List.drop]
              rcases Bool.eq_false_or_eq_true ((((decide (x27.capacity < 0)) || (decide ((100 : Int) < x27.capacity))) || (decide (x27.calendar < 0)))) with hc69 | hc69
              · refine V_gn rfl rfl rfl hc69 rfl rfl rfl ?_
                refine V_gn rfl rfl rfl hc69 rfl rfl rfl ?_
                refine V_gn rfl rfl rfl hc69 rfl rfl rfl ?_
                refine V_y (Y_pick_te rfl hc69 rfl) rfl rfl rfl ?_
                exact V_end fun a ha => ⟨(), ha.sub ⟨rfl, rfl, rfl, rfl, rfl, (by rw [hc69]; rfl), trivial⟩, rfl⟩
              · refine V_ge rfl rfl rfl hc69 ?_
                have h71 := El_route_Person_2 h42
                refine V_y (Y_fieldAddr Tryz.underlying32 rfl Tryz.sizeOf3 (by decide) rfl) rfl rfl rfl ?_
                refine V_ge rfl rfl rfl hc69 ?_
                refine V_y (Y_load (El.int h71) Tryz.isAgg3 rfl) rfl rfl rfl ?_
                refine V_ge rfl rfl rfl hc69 ?_
                refine V_y (Y_geq rfl rfl) rfl rfl rfl ?_
                refine V_y (Y_pick_fe rfl hc69 rfl) rfl rfl rfl ?_
                exact V_end fun a ha => ⟨(), ha.sub ⟨rfl, rfl, rfl, rfl, rfl, (by rw [hc69]; rfl), trivial⟩, rfl⟩
            simp only [List.take, List.drop]
            rintro _ _ rfl
            refine V_y (Y_assign rfl) rfl rfl rfl ?_
            refine V_to (fun _ _ => rfl) ?_
            refine C_cond rfl (fun hc72 => ?_) (fun hc72 => ?_)
            · rw [if_pos hc72] at h19
              refine C_seq ?_
              refine C_region ?_
              refine V_y (Y_assign rfl) rfl rfl rfl ?_
              refine V_to (fun _ _ => rfl) ?_
              obtain rfl := Option.some.inj h19
              obtain rfl := (h20 : Lp.rt _ = _)
              rw [Lp.andThen_rt] at hm
              obtain rfl := Option.some.inj hm
              refine C_ret ?_
              try simp only [↓inBlock_ret, ↓then_ret]
              exact retQ rfl (Res.one Tryz.results13 rfl) ⟨rfl, hK.kp⟩
            · rw [if_neg (nt hc72)] at h19
              refine C_skip_to (fun _ _ => rfl) ?_
              refine C_seq ?_
              refine C_region ?_
              have h73 := El_route_Person_3 h42
              refine V_y (Y_fieldAddr Tryz.underlying32 rfl Tryz.sizeOf30 (by decide) rfl) rfl rfl rfl ?_
              obtain ⟨v74, h75, h76⟩ := El.list h73
              refine V_y (Y_load h75 Tryz.isAgg30 rfl) rfl rfl rfl ?_
              obtain ⟨x77, hx77, h19⟩ := Option.bind_eq_some_iff.1 h19
              refine V_call Tryz.call53 rfl rfl rfl rfl (portref2_skillsFault_c w58 hA x27.skills v74 h76 hx77) ?_
              rintro _ w78 ⟨rfl, hk79⟩
              have ht80 := Kp.tr (Dw := False) hk79 hA hB
              replace hH := Hp.kp (Dw := False) hH hk79
              replace h_l := Sl.tr (Dw := False) h_l ht80
              replace h42 := El.tr (Dw := False) h42 ht80
              replace h73 := El.tr (Dw := False) h73 ht80
              replace h76 := Sl.tr (Dw := False) h76 ht80
              replace hK := Tr.trans (Dw := False) hK ht80
              replace hr6 := Tr.trans (Dw := False) hr6 ht80
              replace hB := Nat.le_trans hB ht80.ex.size
              replace hA := ht80.new
              refine V_y (Y_assign rfl) rfl rfl rfl ?_
              refine V_to (fun _ _ => rfl) ?_
              refine C_seq ?_
              refine C_region ?_
              refine V_y (Y_move rfl) rfl rfl rfl ?_
              refine V_y (Y_neq rfl rfl) rfl rfl rfl ?_
              refine V_to (fun _ _ => rfl) ?_
              refine C_cond rfl (fun hc81 => ?_) (fun hc81 => ?_)
              · rw [if_pos hc81] at h19
                refine C_seq ?_
                refine C_region ?_
                refine V_y (Y_move rfl) rfl rfl rfl ?_
                refine V_y (Y_assign rfl) rfl rfl rfl ?_
                refine V_to (fun _ _ => rfl) ?_
                obtain rfl := Option.some.inj h19
                obtain rfl := (h20 : Lp.rt _ = _)
                rw [Lp.andThen_rt] at hm
                obtain rfl := Option.some.inj hm
                refine C_ret ?_
                try simp only [↓inBlock_ret, ↓then_ret]
                exact retQ rfl (Res.one Tryz.results13 rfl) ⟨rfl, hK.kp⟩
              · rw [if_neg (nt hc81)] at h19
                refine C_skip_to (fun _ _ => rfl) ?_
                refine C_region ?_
                refine V_y (Y_addI rfl rfl) rfl rfl rfl ?_
                refine V_y (Y_move rfl) rfl rfl rfl ?_
                obtain rfl := Option.some.inj h19
                refine V_end (fun a ha82 => ?_)
                exact ⟨(), hlt22, h20, ⟨A16, ha82.sub ⟨rfl, rfl, rfl, (congrArg (fun z => some (Value.int .i64 z)) (w64_succ hlt22 hn25)), trivial⟩, ⟨hH, hr6⟩⟩⟩
      · refine C_exit (fun a ha83 => ?_)
        exact ⟨((), A16), ha83.sub trivial, ⟨(h23 (eq_of_dec hle21 hc26)).symm, hH, hr6⟩⟩
    rintro ⟨s5, A12⟩ w9 ⟨rfl, hH13, hk10⟩ a ha11
    rw [Lp.andThen_fin] at hm
    replace hK := Tr.trans (Dw := False) hK hk10
    replace hB := Nat.le_trans hB hk10.ex.size
    replace hA := hk10.new
    replace hH : Hp w.heap.size A12 w9 ([]) := hH13
    refine C_at (n := ⟨65, [], none⟩) (fun _ _ => rfl) ?_ ha11
    refine C_seq ?_
    refine C_region ?_
    refine V_y (Y_assign rfl) rfl rfl rfl ?_
    refine V_to (fun _ _ => rfl) ?_
    obtain rfl := Option.some.inj hm
    refine C_ret ?_
    try simp only [↓inBlock_ret, ↓then_ret]
    exact retQ rfl (Res.one Tryz.results13 rfl) ⟨rfl, hK.kp⟩

end Go.Proofs.YtpiihecmmdeofaaGreatDoor.W
