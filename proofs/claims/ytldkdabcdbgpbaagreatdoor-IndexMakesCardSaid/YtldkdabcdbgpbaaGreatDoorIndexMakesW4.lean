/-
  Written by program (gen.py) from the IR of the dump: each function computes its model.
-/
import Derived.Test.YtldkdabcdbgpbaaGreatDoorIndexMakesW3
namespace Go.Proofs.YtldkdabcdbgpbaaGreatDoor.W
open Go Go.RowKit Go.Pu Go.Gw Go.Proofs Go.Proofs.YtldkdabcdbgpbaaGreatDoor.M
set_option linter.unusedVariables false
set_option linter.unusedSimpArgs false
variable {Dw : Prop}

set_option maxRecDepth 4000 in
set_option maxHeartbeats 4000000 in
theorem slices_EqualFunc_Lknow_Posting_Lknow_Posting_know_Posting_know_Posting_c (w : World) {A : Nat → Prop} (hA : ∀ b, w.heap.size ≤ b → A b) (s1 : (List know_Posting)) (v_s1 : Value) (h_s1 : Sl A w v_s1 s1) (s2 : (List know_Posting)) (v_s2 : Value) (h_s2 : Sl A w v_s2 s2) (eq : know_Posting → know_Posting → Option Bool) (eq_f : FuncId) (eq_a eq_c : Array Value) (eq_call : ∀ (args : Array Value) (w : World), (callFunc eq_f args).run Tryz.prog w = .ok (.enter eq_f args) w) (eq_spec : ∀ (w1 : World) (A1 : Nat → Prop), Tr Dw w.heap.size A w A1 w1 → (∀ b, w1.heap.size ≤ b → A1 b) → ∀ (y0 : know_Posting) (v1 : Value) (h2 : Sl A1 w1 v1 y0.title) (v3 : Value) (h4 : Sl A1 w1 v3 y0.body) (y1 : know_Posting) (v5 : Value) (h6 : Sl A1 w1 v5 y1.title) (v7 : Value) (h8 : Sl A1 w1 v7 y1.body) (r : Bool), eq y0 y1 = some r → Ret Tryz.prog eq_f (eq_a ++ #[.agg #[.int .i64 y0.id_, v1, v3], .agg #[.int .i64 y1.id_, v5, v7]] ++ eq_c) w1 fun v w' => v = .bool r ∧ Kp Dw w1 w') {r : Bool} (hm : slices_EqualFunc_Lknow_Posting_Lknow_Posting_know_Posting_know_Posting s1 s2 eq = some r) : Ret Tryz.prog 31 #[v_s1, v_s2, .func (.func eq_f) eq_a eq_c] w fun v w' => v = .bool r ∧ Kp Dw w w' := by
  unfold slices_EqualFunc_Lknow_Posting_Lknow_Posting_know_Posting_know_Posting at hm
  refine enter Tryz.func31 rfl Tryz.ntmps31 rfl ?_
  have hA0 := hA
  have hB := Nat.le_refl w.heap.size
  have hK : Tr Dw w.heap.size A w A w := Tr.refl (Dw := Dw) hA
  have hH : Hp w.heap.size A w [] := Hp.nil
  refine C_seq ?_
  refine C_region ?_
  refine V_y (Y_assign rfl) rfl rfl rfl ?_
  refine V_to (fun _ _ => rfl) ?_
  refine C_seq ?_
  refine C_seq ?_
  refine C_region ?_
  refine V_y (Y_move rfl) rfl rfl rfl ?_
  refine V_y (Y_lenSl h_s1 rfl Tryz.underlying81 rfl) rfl rfl rfl ?_
  refine V_y (Y_move rfl) rfl rfl rfl ?_
  refine V_y (Y_lenSl h_s2 rfl Tryz.underlying81 rfl) rfl rfl rfl ?_
  refine V_y (Y_neq rfl rfl) rfl rfl rfl ?_
  refine V_to (fun _ _ => rfl) ?_
  refine C_cond rfl (fun hc5 => ?_) (fun hc5 => ?_)
  · rw [if_pos hc5] at hm
    refine C_seq ?_
    refine C_region ?_
    refine V_y (Y_assign rfl) rfl rfl rfl ?_
    refine V_to (fun _ _ => rfl) ?_
    obtain rfl := Option.some.inj hm
    refine C_ret ?_
    try simp only [↓inBlock_ret, ↓then_ret]
    exact retQ rfl (Res.one Tryz.results31 rfl) ⟨rfl, hK.kp⟩
  · rw [if_neg (nt hc5)] at hm
    refine C_skip_to (fun _ _ => rfl) ?_
    refine C_seq ?_
    refine C_seq ?_
    refine C_region ?_
    refine V_y (Y_move rfl) rfl rfl rfl ?_
    refine V_y (Y_lenSl h_s1 rfl Tryz.underlying81 rfl) rfl rfl rfl ?_
    refine V_y (Y_move rfl) rfl rfl rfl ?_
    refine V_to (fun _ _ => rfl) ?_
    have hn27 := Sl.le h_s1
    obtain ⟨o6, ho6, hm⟩ := Option.bind_eq_some_iff.1 hm
    refine C_cutG (ι := (Unit × (Nat → Prop))) (fun ⟨s7, A13⟩ => []) (fun ⟨s7, A13⟩ => fun w' => o6 = .fin s7 ∧ Hp w.heap.size A13 w' ([]) ∧ Tr Dw w.heap.size A w A13 w') ?_ ?_
    · refine C_block ?_
      refine C_range ho6 (fun k9 _ a w' => ∃ i : (Nat → Prop), Has ⟨32, [], none⟩ a ([(1, v_s2), (2, .func (.func eq_f) eq_a eq_c), (15, v_s1), (16, .int .i64 (s1.length : Int)), (17, .int .i64 (k9 : Int))]) ∧ Hp w.heap.size i w' ([]) ∧ Tr Dw w.heap.size A w i w') (fun a ha => ⟨A, ha.sub ⟨rfl, rfl, rfl, rfl, rfl, trivial⟩, ⟨hH, Tr.refl (Dw := Dw) hA⟩⟩) ?_
      rintro K k9 _ a w17 ⟨A18, ha93, hH19, hr8⟩ hle23 K26 h25
      refine C_of ?_ ha93
      replace h_s2 := Sl.tr (Dw := Dw) h_s2 hr8
      replace h_s1 := Sl.tr (Dw := Dw) h_s1 hr8
      replace hK := Tr.trans (Dw := Dw) hK hr8
      replace hB := Nat.le_trans hB hr8.ex.size
      replace hA := hr8.new
      replace hH : Hp w.heap.size A18 w17 ([]) := hH19
      refine C_seq (C_region (V_y (Y_lss rfl rfl) rfl rfl rfl (V_to (fun _ _ => rfl) ?_)))
      refine C_seq ?_
      refine C_cond rfl (fun hc28 => ?_) (fun hc28 => ?_)
      · have hlt24 := lt_of_dec hc28
        obtain ⟨x20, h21, h22⟩ := K26 hlt24
        refine C_skip_to (fun _ _ => rfl) ?_
        refine C_seq ?_
        refine C_block ?_
        refine C_seq ?_
        refine C_region ?_
        refine V_y (Y_move rfl) rfl rfl rfl ?_
        obtain ⟨x29, hx29, h21⟩ := Option.bind_eq_some_iff.1 h21
        refine V_indexAddr h_s1 hx29 Tryz.underlying81 Tryz.sizeOf86 rfl rfl rfl ?_
        intro b30 o31 h32
        obtain ⟨v33, v35, h37, h34, h36⟩ := El_know_Posting h32
        refine V_y (Y_loadA h37 Tryz.isAgg86 Tryz.sizeOf86 rfl) rfl rfl rfl ?_
        refine V_alloc Tryz.zeroValue86 rfl ?_
        intro b38 w39 h40
        refine V_y (Y_assign rfl) rfl rfl rfl ?_
        have h45 : (v33).oneCell' = true := by obtain ⟨_, _, e, _⟩ := Sl.form h34; rw [e]; rfl
        have h48 : (v35).oneCell' = true := by obtain ⟨_, _, e, _⟩ := Sl.form h36; rw [e]; rfl
        refine V_storeNew h40 Tryz.sizeOf86 rfl rfl rfl rfl (by exact (List.forall_mem_cons.2 ⟨rfl, (List.forall_mem_cons.2 ⟨h45, (List.forall_mem_cons.2 ⟨h48, (fun _ h => nomatch h)⟩)⟩)⟩)) ?_
        intro w41 h42
        have hk50 := h42.kp (Dw := Dw)
        have h49 : El (α := know_Posting) A18 w41 b38 0 x29 := h42.el hA ⟨[.int .i64 x29.id_], _, rfl, rfl, ⟨[v33], _, rfl, ⟨_, rfl, h34⟩, ⟨_, rfl, h36⟩⟩⟩
        have ht51 := Kp.tr (Dw := Dw) hk50 hA hB
        replace hH := Hp.kp (Dw := Dw) hH hk50
        replace h_s2 := Sl.tr (Dw := Dw) h_s2 ht51
        replace h_s1 := Sl.tr (Dw := Dw) h_s1 ht51
        replace h32 := El.tr (Dw := Dw) h32 ht51
        replace h34 := Sl.tr (Dw := Dw) h34 ht51
        replace h36 := Sl.tr (Dw := Dw) h36 ht51
        replace hK := Tr.trans (Dw := Dw) hK ht51
        replace hr8 := Tr.trans (Dw := Dw) hr8 ht51
        replace hB := Nat.le_trans hB ht51.ex.size
        replace hA := ht51.new
        refine V_to (fun _ _ => rfl) ?_
        refine C_seq ?_
        refine C_region ?_
        refine V_y (Y_move rfl) rfl rfl rfl ?_
        refine V_y (Y_move rfl) rfl rfl rfl ?_
        obtain ⟨x52, hx52, h21⟩ := Option.bind_eq_some_iff.1 h21
        refine V_indexAddr h_s2 hx52 Tryz.underlying81 Tryz.sizeOf86 rfl rfl rfl ?_
        intro b53 o54 h55
        obtain ⟨v56, v58, h60, h57, h59⟩ := El_know_Posting h55
        refine V_y (Y_loadA h60 Tryz.isAgg86 Tryz.sizeOf86 rfl) rfl rfl rfl ?_
        refine V_alloc Tryz.zeroValue86 rfl ?_
        intro b61 w62 h63
        have h69 : (v56).oneCell' = true := by obtain ⟨_, _, e, _⟩ := Sl.form h57; rw [e]; rfl
        have h72 : (v58).oneCell' = true := by obtain ⟨_, _, e, _⟩ := Sl.form h59; rw [e]; rfl
        refine V_storeNew h63 Tryz.sizeOf86 rfl rfl rfl rfl (by exact (List.forall_mem_cons.2 ⟨rfl, (List.forall_mem_cons.2 ⟨h69, (List.forall_mem_cons.2 ⟨h72, (fun _ h => nomatch h)⟩)⟩)⟩)) ?_
        intro w65 h66
        have hk74 := h66.kp (Dw := Dw)
        have h73 : El (α := know_Posting) A18 w65 b61 0 x52 := h66.el hA ⟨[.int .i64 x52.id_], _, rfl, rfl, ⟨[v56], _, rfl, ⟨_, rfl, h57⟩, ⟨_, rfl, h59⟩⟩⟩
        have ht75 := Kp.tr (Dw := Dw) hk74 hA hB
        replace hH := Hp.kp (Dw := Dw) hH hk74
        replace h_s2 := Sl.tr (Dw := Dw) h_s2 ht75
        replace h_s1 := Sl.tr (Dw := Dw) h_s1 ht75
        replace h49 := El.tr (Dw := Dw) h49 ht75
        replace h55 := El.tr (Dw := Dw) h55 ht75
        replace h57 := Sl.tr (Dw := Dw) h57 ht75
        replace h59 := Sl.tr (Dw := Dw) h59 ht75
        replace hK := Tr.trans (Dw := Dw) hK ht75
        replace hr8 := Tr.trans (Dw := Dw) hr8 ht75
        replace hB := Nat.le_trans hB ht75.ex.size
        replace hA := ht75.new
        refine V_to (fun _ _ => rfl) ?_
        refine C_seq ?_
        refine C_region ?_
        refine V_y (Y_move rfl) rfl rfl rfl ?_
        obtain ⟨v76, v78, h80, h77, h79⟩ := El_know_Posting h49
        refine V_y (Y_loadA h80 Tryz.isAgg86 Tryz.sizeOf86 rfl) rfl rfl rfl ?_
        obtain ⟨v81, v83, h85, h82, h84⟩ := El_know_Posting h73
        refine V_y (Y_loadA h85 Tryz.isAgg86 Tryz.sizeOf86 rfl) rfl rfl rfl ?_
        obtain ⟨x86, hx86, h21⟩ := Option.bind_eq_some_iff.1 h21
        refine V_call eq_call rfl rfl rfl rfl (eq_spec w65 _ hK hA x29 v76 h77 v78 h79 x52 v81 h82 v83 h84 _ hx86) ?_
        rintro _ w87 ⟨rfl, hk88⟩
        have ht89 := Kp.tr (Dw := Dw) hk88 hA hB
        replace hH := Hp.kp (Dw := Dw) hH hk88
        replace h_s2 := Sl.tr (Dw := Dw) h_s2 ht89
        replace h_s1 := Sl.tr (Dw := Dw) h_s1 ht89
        replace h49 := El.tr (Dw := Dw) h49 ht89
        replace h73 := El.tr (Dw := Dw) h73 ht89
        replace h77 := Sl.tr (Dw := Dw) h77 ht89
        replace h79 := Sl.tr (Dw := Dw) h79 ht89
        replace h82 := Sl.tr (Dw := Dw) h82 ht89
        replace h84 := Sl.tr (Dw := Dw) h84 ht89
        replace hK := Tr.trans (Dw := Dw) hK ht89
        replace hr8 := Tr.trans (Dw := Dw) hr8 ht89
        replace hB := Nat.le_trans hB ht89.ex.size
        replace hA := ht89.new
        refine V_y (Y_not rfl) rfl rfl rfl ?_
        refine V_to (fun _ _ => rfl) ?_
        refine C_cond rfl (fun hc90 => ?_) (fun hc90 => ?_)
        · rw [if_pos hc90] at h21
          refine C_seq ?_
          refine C_region ?_
          refine V_y (Y_assign rfl) rfl rfl rfl ?_
          refine V_to (fun _ _ => rfl) ?_
          obtain rfl := Option.some.inj h21
          obtain rfl := (h22 : Lp.rt _ = _)
          rw [Lp.andThen_rt] at hm
          obtain rfl := Option.some.inj hm
          refine C_ret ?_
          try simp only [↓inBlock_ret, ↓then_ret]
          exact retQ rfl (Res.one Tryz.results31 rfl) ⟨rfl, hK.kp⟩
        · rw [if_neg (nt hc90)] at h21
          refine C_skip_to (fun _ _ => rfl) ?_
          refine C_region ?_
          refine V_y (Y_addI rfl rfl) rfl rfl rfl ?_
          refine V_y (Y_move rfl) rfl rfl rfl ?_
          obtain rfl := Option.some.inj h21
          refine V_end (fun a ha91 => ?_)
          exact ⟨(), hlt24, h22, ⟨A18, ha91.sub ⟨rfl, rfl, rfl, rfl, (congrArg (fun z => some (Value.int .i64 z)) (w64_succ hlt24 hn27)), trivial⟩, ⟨hH, hr8⟩⟩⟩
      · refine C_exit (fun a ha92 => ?_)
        exact ⟨((), A18), ha92.sub trivial, ⟨(h25 (eq_of_dec hle23 hc28)).symm, hH, hr8⟩⟩
    rintro ⟨s7, A13⟩ w10 ⟨rfl, hH14, hk11⟩ a ha12
    rw [Lp.andThen_fin] at hm
    replace hK := Tr.trans (Dw := Dw) hK hk11
    replace hB := Nat.le_trans hB hk11.ex.size
    replace hA := hk11.new
    replace hH : Hp w.heap.size A13 w10 ([]) := hH14
    refine C_at (n := ⟨32, [], none⟩) (fun _ _ => rfl) ?_ ha12
    refine C_seq ?_
    refine C_region ?_
    refine V_y (Y_assign rfl) rfl rfl rfl ?_
    refine V_to (fun _ _ => rfl) ?_
    obtain rfl := Option.some.inj hm
    refine C_ret ?_
    try simp only [↓inBlock_ret, ↓then_ret]
    exact retQ rfl (Res.one Tryz.results31 rfl) ⟨rfl, hK.kp⟩

set_option maxRecDepth 4000 in
set_option maxHeartbeats 4000000 in
theorem portref2_Alike_4_1_c (w : World) {A : Nat → Prop} (hA : ∀ b, w.heap.size ≤ b → A b) (p : know_Posting) (v_p0 : Value) (h_p0 : Sl A w v_p0 p.title) (v_p1 : Value) (h_p1 : Sl A w v_p1 p.body) (q : know_Posting) (v_q0 : Value) (h_q0 : Sl A w v_q0 q.title) (v_q1 : Value) (h_q1 : Sl A w v_q1 q.body) {r : Bool} (hm : portref2_Alike_4_1 p q = some r) : Ret Tryz.prog 32 #[.agg #[.int .i64 p.id_, v_p0, v_p1], .agg #[.int .i64 q.id_, v_q0, v_q1]] w fun v w' => v = .bool r ∧ Kp Dw w w' := by
  unfold portref2_Alike_4_1 at hm
  refine enter Tryz.func32 rfl Tryz.ntmps32 rfl ?_
  have hA0 := hA
  have hB := Nat.le_refl w.heap.size
  have hK : Tr Dw w.heap.size A w A w := Tr.refl (Dw := Dw) hA
  have hH : Hp w.heap.size A w [] := Hp.nil
  refine C_seq ?_
  refine C_region ?_
  refine V_box rfl rfl ?_
  intro b9 w10 h11
  have hk13 := h11.kp (Dw := Dw)
  have h12 : El (α := know_Posting) A w10 b9 0 p := h11.el hA ⟨[.int .i64 p.id_], _, rfl, rfl, ⟨[v_p0], _, rfl, ⟨_, rfl, h_p0⟩, ⟨_, rfl, h_p1⟩⟩⟩
  have ht14 := Kp.tr (Dw := Dw) hk13 hA hB
  replace hH := Hp.kp (Dw := Dw) hH hk13
  replace h_p0 := Sl.tr (Dw := Dw) h_p0 ht14
  replace h_p1 := Sl.tr (Dw := Dw) h_p1 ht14
  replace h_q0 := Sl.tr (Dw := Dw) h_q0 ht14
  replace h_q1 := Sl.tr (Dw := Dw) h_q1 ht14
  replace hK := Tr.trans (Dw := Dw) hK ht14
  replace hB := Nat.le_trans hB ht14.ex.size
  replace hA := ht14.new
  refine V_box rfl rfl ?_
  intro b15 w17 h18
  have hk20 := h18.kp (Dw := Dw)
  have h19 : El (α := know_Posting) A w17 b15 0 q := h18.el hA ⟨[.int .i64 q.id_], _, rfl, rfl, ⟨[v_q0], _, rfl, ⟨_, rfl, h_q0⟩, ⟨_, rfl, h_q1⟩⟩⟩
  have ht21 := Kp.tr (Dw := Dw) hk20 hA hB
  replace hH := Hp.kp (Dw := Dw) hH hk20
  replace h_p0 := Sl.tr (Dw := Dw) h_p0 ht21
  replace h_p1 := Sl.tr (Dw := Dw) h_p1 ht21
  replace h_q0 := Sl.tr (Dw := Dw) h_q0 ht21
  replace h_q1 := Sl.tr (Dw := Dw) h_q1 ht21
  replace h12 := El.tr (Dw := Dw) h12 ht21
  replace hK := Tr.trans (Dw := Dw) hK ht21
  replace hB := Nat.le_trans hB ht21.ex.size
  replace hA := ht21.new
  refine V_y (Y_assign rfl) rfl rfl rfl ?_
  refine V_to (fun _ _ => rfl) ?_
  refine C_seq ?_
  obtain ⟨s23, ho22, hm⟩ := Option.bind_eq_some_iff.1 hm
  refine C_cutG (ι := (Nat → Prop)) (fun (A28 : (Nat → Prop)) => [(4, .bool s23)]) (fun (A28 : (Nat → Prop)) => fun w' => Hp w.heap.size A28 w' ([]) ∧ Tr Dw w.heap.size A w17 A28 w') ?_ ?_
  · have hr24 : Tr Dw w.heap.size A w17 A w17 := Tr.refl (Dw := Dw) hA
    refine C_region ?_
    have h30 := El_know_Posting_0 h12
    refine V_y (Y_fieldAddr Tryz.underlying86 rfl Tryz.sizeOf3 (by decide) rfl) rfl rfl rfl ?_
    refine V_y (Y_load (El.int h30) Tryz.isAgg3 rfl) rfl rfl rfl ?_
    have h31 := El_know_Posting_0 h19
    refine V_y (Y_fieldAddr Tryz.underlying86 rfl Tryz.sizeOf3 (by decide) rfl) rfl rfl rfl ?_
    refine V_y (Y_load (El.int h31) Tryz.isAgg3 rfl) rfl rfl rfl ?_
    refine V_y (Y_eql rfl rfl) rfl rfl rfl ?_
    refine V_y (Y_move rfl) rfl rfl rfl ?_
    rcases Bool.eq_false_or_eq_true (p.id_ == q.id_) with hc32 | hc32
    · rw [if_pos hc32] at ho22
      refine V_ge rfl rfl rfl hc32 ?_
      have h33 := El_know_Posting_1 h12
      refine V_y (Y_fieldAddr Tryz.underlying86 rfl Tryz.sizeOf23 (by decide) rfl) rfl rfl rfl ?_
      refine V_ge rfl rfl rfl hc32 ?_
      obtain ⟨v34, h35, h36⟩ := El.list h33
      refine V_y (Y_load h35 Tryz.isAgg23 rfl) rfl rfl rfl ?_
      refine V_ge rfl rfl rfl hc32 ?_
      have h37 := El_know_Posting_1 h19
      refine V_y (Y_fieldAddr Tryz.underlying86 rfl Tryz.sizeOf23 (by decide) rfl) rfl rfl rfl ?_
      refine V_ge rfl rfl rfl hc32 ?_
      obtain ⟨v38, h39, h40⟩ := El.list h37
      refine V_y (Y_load h39 Tryz.isAgg23 rfl) rfl rfl rfl ?_
      refine V_ge rfl rfl rfl hc32 ?_
      obtain ⟨x41, hx41, ho22⟩ := Option.bind_eq_some_iff.1 ho22
      refine V_call Tryz.call28 rfl rfl rfl rfl (slices_Equal_Lint_int_c (Dw := Dw) w17 hA p.title v34 h36 q.title v38 h40 hx41) ?_
      rintro _ w42 ⟨rfl, hk43⟩
      have ht44 := Kp.tr (Dw := Dw) hk43 hA hB
      replace hH := Hp.kp (Dw := Dw) hH hk43
      replace h12 := El.tr (Dw := Dw) h12 ht44
      replace h19 := El.tr (Dw := Dw) h19 ht44
      replace h30 := El.tr (Dw := Dw) h30 ht44
      replace h31 := El.tr (Dw := Dw) h31 ht44
      replace h33 := El.tr (Dw := Dw) h33 ht44
      replace h36 := Sl.tr (Dw := Dw) h36 ht44
      replace h37 := El.tr (Dw := Dw) h37 ht44
      replace h40 := Sl.tr (Dw := Dw) h40 ht44
      replace hK := Tr.trans (Dw := Dw) hK ht44
      replace hr24 := Tr.trans (Dw := Dw) hr24 ht44
      replace hB := Nat.le_trans hB ht44.ex.size
      replace hA := ht44.new
      refine V_y (Y_pick_te rfl hc32 rfl) rfl rfl rfl ?_
      refine V_y (Y_move rfl) rfl rfl rfl ?_
      rcases Bool.eq_false_or_eq_true (x41) with hc45 | hc45
      · rw [if_pos hc45] at ho22
        refine V_ge rfl rfl rfl hc45 ?_
        have h46 := El_know_Posting_2 h12
        refine V_y (Y_fieldAddr Tryz.underlying86 rfl Tryz.sizeOf23 (by decide) rfl) rfl rfl rfl ?_
        refine V_ge rfl rfl rfl hc45 ?_
        obtain ⟨v47, h48, h49⟩ := El.list h46
        refine V_y (Y_load h48 Tryz.isAgg23 rfl) rfl rfl rfl ?_
        refine V_ge rfl rfl rfl hc45 ?_
        have h50 := El_know_Posting_2 h19
        refine V_y (Y_fieldAddr Tryz.underlying86 rfl Tryz.sizeOf23 (by decide) rfl) rfl rfl rfl ?_
        refine V_ge rfl rfl rfl hc45 ?_
        obtain ⟨v51, h52, h53⟩ := El.list h50
        refine V_y (Y_load h52 Tryz.isAgg23 rfl) rfl rfl rfl ?_
        refine V_ge rfl rfl rfl hc45 ?_
        obtain ⟨x54, hx54, ho22⟩ := Option.bind_eq_some_iff.1 ho22
        refine V_call Tryz.call28 rfl rfl rfl rfl (slices_Equal_Lint_int_c (Dw := Dw) w42 hA p.body v47 h49 q.body v51 h53 hx54) ?_
        rintro _ w55 ⟨rfl, hk56⟩
        have ht57 := Kp.tr (Dw := Dw) hk56 hA hB
        replace hH := Hp.kp (Dw := Dw) hH hk56
        replace h12 := El.tr (Dw := Dw) h12 ht57
        replace h19 := El.tr (Dw := Dw) h19 ht57
        replace h30 := El.tr (Dw := Dw) h30 ht57
        replace h31 := El.tr (Dw := Dw) h31 ht57
        replace h33 := El.tr (Dw := Dw) h33 ht57
        replace h36 := Sl.tr (Dw := Dw) h36 ht57
        replace h37 := El.tr (Dw := Dw) h37 ht57
        replace h40 := Sl.tr (Dw := Dw) h40 ht57
        replace h46 := El.tr (Dw := Dw) h46 ht57
        replace h49 := Sl.tr (Dw := Dw) h49 ht57
        replace h50 := El.tr (Dw := Dw) h50 ht57
        replace h53 := Sl.tr (Dw := Dw) h53 ht57
        replace hK := Tr.trans (Dw := Dw) hK ht57
        replace hr24 := Tr.trans (Dw := Dw) hr24 ht57
        replace hB := Nat.le_trans hB ht57.ex.size
        replace hA := ht57.new
        refine V_y (Y_pick_te rfl hc45 rfl) rfl rfl rfl ?_
        refine V_y (Y_assign rfl) rfl rfl rfl ?_
        obtain rfl := Option.some.inj ho22
        refine V_end (fun a ha58 => ?_)
        exact ⟨A, ha58.sub ⟨rfl, trivial⟩, ⟨hH, hr24⟩⟩
      · rw [if_neg (nt hc45)] at ho22
        refine V_gn rfl rfl rfl hc45 rfl rfl rfl ?_
        refine V_gn rfl rfl rfl hc45 rfl rfl rfl ?_
        refine V_gn rfl rfl rfl hc45 rfl rfl rfl ?_
        refine V_gn rfl rfl rfl hc45 rfl rfl rfl ?_
        refine V_gn rfl rfl rfl hc45 rfl rfl rfl ?_
        refine V_y (Y_pick_fe rfl hc45 rfl) rfl rfl rfl ?_
        refine V_y (Y_assign rfl) rfl rfl rfl ?_
        obtain rfl := Option.some.inj ho22
        refine V_end (fun a ha59 => ?_)
        exact ⟨A, ha59.sub ⟨rfl, trivial⟩, ⟨hH, hr24⟩⟩
    · rw [if_neg (nt hc32)] at ho22
      refine V_gn rfl rfl rfl hc32 rfl rfl rfl ?_
      refine V_gn rfl rfl rfl hc32 rfl rfl rfl ?_
      refine V_gn rfl rfl rfl hc32 rfl rfl rfl ?_
      refine V_gn rfl rfl rfl hc32 rfl rfl rfl ?_
      refine V_gn rfl rfl rfl hc32 rfl rfl rfl ?_
      refine V_y (Y_pick_fe rfl hc32 rfl) rfl rfl rfl ?_
      refine V_y (Y_move rfl) rfl rfl rfl ?_
      rcases Bool.eq_false_or_eq_true (false) with hc60 | hc60
      · rw [if_pos hc60] at ho22
        refine V_ge rfl rfl rfl hc60 ?_
        have h61 := El_know_Posting_2 h12
        refine V_y (Y_fieldAddr Tryz.underlying86 rfl Tryz.sizeOf23 (by decide) rfl) rfl rfl rfl ?_
        refine V_ge rfl rfl rfl hc60 ?_
        obtain ⟨v62, h63, h64⟩ := El.list h61
        refine V_y (Y_load h63 Tryz.isAgg23 rfl) rfl rfl rfl ?_
        refine V_ge rfl rfl rfl hc60 ?_
        have h65 := El_know_Posting_2 h19
        refine V_y (Y_fieldAddr Tryz.underlying86 rfl Tryz.sizeOf23 (by decide) rfl) rfl rfl rfl ?_
        refine V_ge rfl rfl rfl hc60 ?_
        obtain ⟨v66, h67, h68⟩ := El.list h65
        refine V_y (Y_load h67 Tryz.isAgg23 rfl) rfl rfl rfl ?_
        refine V_ge rfl rfl rfl hc60 ?_
        obtain ⟨x69, hx69, ho22⟩ := Option.bind_eq_some_iff.1 ho22
        refine V_call Tryz.call28 rfl rfl rfl rfl (slices_Equal_Lint_int_c (Dw := Dw) w17 hA p.body v62 h64 q.body v66 h68 hx69) ?_
        rintro _ w70 ⟨rfl, hk71⟩
        have ht72 := Kp.tr (Dw := Dw) hk71 hA hB
        replace hH := Hp.kp (Dw := Dw) hH hk71
        replace h12 := El.tr (Dw := Dw) h12 ht72
        replace h19 := El.tr (Dw := Dw) h19 ht72
        replace h30 := El.tr (Dw := Dw) h30 ht72
        replace h31 := El.tr (Dw := Dw) h31 ht72
        replace h61 := El.tr (Dw := Dw) h61 ht72
        replace h64 := Sl.tr (Dw := Dw) h64 ht72
        replace h65 := El.tr (Dw := Dw) h65 ht72
        replace h68 := Sl.tr (Dw := Dw) h68 ht72
        replace hK := Tr.trans (Dw := Dw) hK ht72
        replace hr24 := Tr.trans (Dw := Dw) hr24 ht72
        replace hB := Nat.le_trans hB ht72.ex.size
        replace hA := ht72.new
        refine V_y (Y_pick_te rfl hc60 rfl) rfl rfl rfl ?_
        refine V_y (Y_assign rfl) rfl rfl rfl ?_
        obtain rfl := Option.some.inj ho22
        refine V_end (fun a ha73 => ?_)
        exact ⟨A, ha73.sub ⟨rfl, trivial⟩, ⟨hH, hr24⟩⟩
      · rw [if_neg (nt hc60)] at ho22
        refine V_gn rfl rfl rfl hc60 rfl rfl rfl ?_
        refine V_gn rfl rfl rfl hc60 rfl rfl rfl ?_
        refine V_gn rfl rfl rfl hc60 rfl rfl rfl ?_
        refine V_gn rfl rfl rfl hc60 rfl rfl rfl ?_
        refine V_gn rfl rfl rfl hc60 rfl rfl rfl ?_
        refine V_y (Y_pick_fe rfl hc60 rfl) rfl rfl rfl ?_
        refine V_y (Y_assign rfl) rfl rfl rfl ?_
        obtain rfl := Option.some.inj ho22
        refine V_end (fun a ha74 => ?_)
        exact ⟨A, ha74.sub ⟨rfl, trivial⟩, ⟨hH, hr24⟩⟩
  rintro A28 w25 ⟨hH29, hk26⟩ a ha27
  replace hK := Tr.trans (Dw := Dw) hK hk26
  replace hB := Nat.le_trans hB hk26.ex.size
  replace hA := hk26.new
  replace hH : Hp w.heap.size A28 w25 ([]) := hH29
  refine C_at (n := ⟨24, [], none⟩) (fun _ _ => rfl) ?_ ha27
  obtain rfl := Option.some.inj hm
  refine C_ret ?_
  try simp only [↓inBlock_ret, ↓then_ret]
  exact retQ rfl (Res.one Tryz.results32 rfl) ⟨rfl, hK.kp⟩

set_option maxRecDepth 4000 in
set_option maxHeartbeats 4000000 in
theorem portref2_Alike_4_c (w : World) {A : Nat → Prop} (hA : ∀ b, w.heap.size ≤ b → A b) (a_ : know_Term) (v_a_ : Value) (h_a_ : Sl A w v_a_ a_.list_) (b : know_Term) (v_b : Value) (h_b : Sl A w v_b b.list_) {r : Bool} (hm : portref2_Alike_4 a_ b = some r) : Ret Tryz.prog 30 #[.agg #[.string a_.word, v_a_], .agg #[.string b.word, v_b]] w fun v w' => v = .bool r ∧ Kp Dw w w' := by
  unfold portref2_Alike_4 at hm
  refine enter Tryz.func30 rfl Tryz.ntmps30 rfl ?_
  have hA0 := hA
  have hB := Nat.le_refl w.heap.size
  have hK : Tr Dw w.heap.size A w A w := Tr.refl (Dw := Dw) hA
  have hH : Hp w.heap.size A w [] := Hp.nil
  refine C_seq ?_
  refine C_region ?_
  refine V_box rfl rfl ?_
  intro b5 w6 h7
  have hk9 := h7.kp (Dw := Dw)
  have h8 : El (α := know_Term) A w6 b5 0 a_ := h7.el hA ⟨[.string a_.word], _, rfl, rfl, ⟨_, rfl, h_a_⟩⟩
  have ht10 := Kp.tr (Dw := Dw) hk9 hA hB
  replace hH := Hp.kp (Dw := Dw) hH hk9
  replace h_a_ := Sl.tr (Dw := Dw) h_a_ ht10
  replace h_b := Sl.tr (Dw := Dw) h_b ht10
  replace hK := Tr.trans (Dw := Dw) hK ht10
  replace hB := Nat.le_trans hB ht10.ex.size
  replace hA := ht10.new
  refine V_box rfl rfl ?_
  intro b11 w12 h13
  have hk15 := h13.kp (Dw := Dw)
  have h14 : El (α := know_Term) A w12 b11 0 b := h13.el hA ⟨[.string b.word], _, rfl, rfl, ⟨_, rfl, h_b⟩⟩
  have ht16 := Kp.tr (Dw := Dw) hk15 hA hB
  replace hH := Hp.kp (Dw := Dw) hH hk15
  replace h_a_ := Sl.tr (Dw := Dw) h_a_ ht16
  replace h_b := Sl.tr (Dw := Dw) h_b ht16
  replace h8 := El.tr (Dw := Dw) h8 ht16
  replace hK := Tr.trans (Dw := Dw) hK ht16
  replace hB := Nat.le_trans hB ht16.ex.size
  replace hA := ht16.new
  refine V_y (Y_assign rfl) rfl rfl rfl ?_
  refine V_to (fun _ _ => rfl) ?_
  refine C_seq ?_
  obtain ⟨s18, ho17, hm⟩ := Option.bind_eq_some_iff.1 hm
  refine C_cutG (ι := (Nat → Prop)) (fun (A23 : (Nat → Prop)) => [(4, .bool s18)]) (fun (A23 : (Nat → Prop)) => fun w' => Hp w.heap.size A23 w' ([]) ∧ Tr Dw w.heap.size A w12 A23 w') ?_ ?_
  · have hr19 : Tr Dw w.heap.size A w12 A w12 := Tr.refl (Dw := Dw) hA
    refine C_region ?_
    have h25 := El_know_Term_0 h8
    refine V_y (Y_fieldAddr Tryz.underlying83 rfl Tryz.sizeOf9 (by decide) rfl) rfl rfl rfl ?_
    refine V_y (Y_load (El.str h25) Tryz.isAgg9 rfl) rfl rfl rfl ?_
    have h26 := El_know_Term_0 h14
    refine V_y (Y_fieldAddr Tryz.underlying83 rfl Tryz.sizeOf9 (by decide) rfl) rfl rfl rfl ?_
    refine V_y (Y_load (El.str h26) Tryz.isAgg9 rfl) rfl rfl rfl ?_
    refine V_y (Y_seql rfl rfl) rfl rfl rfl ?_
    refine V_y (Y_move rfl) rfl rfl rfl ?_
    rcases Bool.eq_false_or_eq_true (strEq a_.word b.word) with hc27 | hc27
    · rw [if_pos hc27] at ho17
      refine V_ge rfl rfl rfl hc27 ?_
      have h28 := El_know_Term_1 h8
      refine V_y (Y_fieldAddr Tryz.underlying83 rfl Tryz.sizeOf81 (by decide) rfl) rfl rfl rfl ?_
      refine V_ge rfl rfl rfl hc27 ?_
      obtain ⟨v29, h30, h31⟩ := El.list h28
      refine V_y (Y_load h30 Tryz.isAgg81 rfl) rfl rfl rfl ?_
      refine V_ge rfl rfl rfl hc27 ?_
      have h32 := El_know_Term_1 h14
      refine V_y (Y_fieldAddr Tryz.underlying83 rfl Tryz.sizeOf81 (by decide) rfl) rfl rfl rfl ?_
      refine V_ge rfl rfl rfl hc27 ?_
      obtain ⟨v33, h34, h35⟩ := El.list h32
      refine V_y (Y_load h34 Tryz.isAgg81 rfl) rfl rfl rfl ?_
      refine V_ge rfl rfl rfl hc27 ?_
      obtain ⟨x38, hx38, ho17⟩ := Option.bind_eq_some_iff.1 ho17
      refine V_call Tryz.call31 rfl rfl rfl rfl (slices_EqualFunc_Lknow_Posting_Lknow_Posting_know_Posting_know_Posting_c (Dw := Dw) w12 hA a_.list_ v29 h31 b.list_ v33 h35 (fun y55 y56 => portref2_Alike_4_1 y55 y56) 32 #[] #[] Tryz.call32 (fun w51 A52 ht53 h54 y39 v40 h41 v42 h43 y44 v45 h46 v47 h48 r49 h50 => (portref2_Alike_4_1_c (Dw := Dw) w51 h54 y39 v40 h41 v42 h43 y44 v45 h46 v47 h48  h50).mono (fun _ _ h => ⟨h.1, h.2⟩)) hx38) ?_
      rintro _ w57 ⟨rfl, hk58⟩
      have ht59 := Kp.tr (Dw := Dw) hk58 hA hB
      replace hH := Hp.kp (Dw := Dw) hH hk58
      replace h8 := El.tr (Dw := Dw) h8 ht59
      replace h14 := El.tr (Dw := Dw) h14 ht59
      replace h25 := El.tr (Dw := Dw) h25 ht59
      replace h26 := El.tr (Dw := Dw) h26 ht59
      replace h28 := El.tr (Dw := Dw) h28 ht59
      replace h31 := Sl.tr (Dw := Dw) h31 ht59
      replace h32 := El.tr (Dw := Dw) h32 ht59
      replace h35 := Sl.tr (Dw := Dw) h35 ht59
      replace hK := Tr.trans (Dw := Dw) hK ht59
      replace hr19 := Tr.trans (Dw := Dw) hr19 ht59
      replace hB := Nat.le_trans hB ht59.ex.size
      replace hA := ht59.new
      refine V_y (Y_pick_te rfl hc27 rfl) rfl rfl rfl ?_
      refine V_y (Y_assign rfl) rfl rfl rfl ?_
      obtain rfl := Option.some.inj ho17
      refine V_end (fun a ha60 => ?_)
      exact ⟨A, ha60.sub ⟨rfl, trivial⟩, ⟨hH, hr19⟩⟩
    · rw [if_neg (nt hc27)] at ho17
      refine V_gn rfl rfl rfl hc27 rfl rfl rfl ?_
      refine V_gn rfl rfl rfl hc27 rfl rfl rfl ?_
      refine V_gn rfl rfl rfl hc27 rfl rfl rfl ?_
      refine V_gn rfl rfl rfl hc27 rfl rfl rfl ?_
      refine V_gn rfl rfl rfl hc27 rfl rfl rfl ?_
      refine V_y (Y_pick_fe rfl hc27 rfl) rfl rfl rfl ?_
      refine V_y (Y_assign rfl) rfl rfl rfl ?_
      obtain rfl := Option.some.inj ho17
      refine V_end (fun a ha61 => ?_)
      exact ⟨A, ha61.sub ⟨rfl, trivial⟩, ⟨hH, hr19⟩⟩
  rintro A23 w20 ⟨hH24, hk21⟩ a ha22
  replace hK := Tr.trans (Dw := Dw) hK hk21
  replace hB := Nat.le_trans hB hk21.ex.size
  replace hA := hk21.new
  replace hH : Hp w.heap.size A23 w20 ([]) := hH24
  refine C_at (n := ⟨17, [], none⟩) (fun _ _ => rfl) ?_ ha22
  obtain rfl := Option.some.inj hm
  refine C_ret ?_
  try simp only [↓inBlock_ret, ↓then_ret]
  exact retQ rfl (Res.one Tryz.results30 rfl) ⟨rfl, hK.kp⟩

set_option maxRecDepth 4000 in
set_option maxHeartbeats 4000000 in
theorem portref2_Alike_c (w : World) {A : Nat → Prop} (hA : ∀ b, w.heap.size ≤ b → A b) (a_ : know_Index) (v_a_0 : Value) (h_a_0 : Sl A w v_a_0 a_.ids) (v_a_1 : Value) (h_a_1 : Sl A w v_a_1 a_.sizes) (v_a_2 : Value) (h_a_2 : Sl A w v_a_2 a_.terms) (b : know_Index) (v_b0 : Value) (h_b0 : Sl A w v_b0 b.ids) (v_b1 : Value) (h_b1 : Sl A w v_b1 b.sizes) (v_b2 : Value) (h_b2 : Sl A w v_b2 b.terms) {r : Bool} (hm : portref2_Alike a_ b = some r) : Ret Tryz.prog 7 #[.iface 26 (.agg #[v_a_0, v_a_1, v_a_2]), .iface 26 (.agg #[v_b0, v_b1, v_b2])] w fun v w' => v = .bool r ∧ Kp Dw w w' := by
  unfold portref2_Alike at hm
  refine enter Tryz.func7 rfl Tryz.ntmps7 rfl ?_
  have hA0 := hA
  have hB := Nat.le_refl w.heap.size
  have hK : Tr Dw w.heap.size A w A w := Tr.refl (Dw := Dw) hA
  have hH : Hp w.heap.size A w [] := Hp.nil
  refine C_seq ?_
  refine C_region ?_
  refine V_y (Y_assign rfl) rfl rfl rfl ?_
  refine V_to (fun _ _ => rfl) ?_
  refine C_seq ?_
  refine C_seq ?_
  refine C_region ?_
  refine V_y (Y_move rfl) rfl rfl rfl ?_
  refine V_to (fun _ _ => rfl) ?_
  refine C_block ?_
  refine C_seq ?_
  refine C_region ?_
  refine V_y (Y_asNS Tryz.underlying48 Tryz.zeroValue48 (by decide) rfl) rfl rfl rfl ?_
  refine V_y (Y_extract rfl rfl) rfl rfl rfl ?_
  refine V_y (Y_extract rfl rfl) rfl rfl rfl ?_
  refine V_to (fun _ _ => rfl) ?_
  refine C_cond rfl (fun hc => ?_) (fun hc => ?_)
  · exact absurd hc (by decide)
  · refine C_seq ?_
    refine C_region ?_
    refine V_y (Y_asNL Tryz.underlying60 Tryz.zeroValue60 (by decide) rfl) rfl rfl rfl ?_
    refine V_y (Y_extract rfl rfl) rfl rfl rfl ?_
    refine V_y (Y_extract rfl rfl) rfl rfl rfl ?_
    refine V_to (fun _ _ => rfl) ?_
    refine C_cond rfl (fun hc => ?_) (fun hc => ?_)
    · exact absurd hc (by decide)
    · refine C_seq ?_
      refine C_region ?_
      refine V_y (Y_asNL Tryz.underlying70 Tryz.zeroValue70 (by decide) rfl) rfl rfl rfl ?_
      refine V_y (Y_extract rfl rfl) rfl rfl rfl ?_
      refine V_y (Y_extract rfl rfl) rfl rfl rfl ?_
      refine V_to (fun _ _ => rfl) ?_
      refine C_cond rfl (fun hc => ?_) (fun hc => ?_)
      · exact absurd hc (by decide)
      · refine C_seq ?_
        refine C_region ?_
        refine V_y (Y_asIS Tryz.underlying26 rfl) rfl rfl rfl ?_
        refine V_y (Y_extract rfl rfl) rfl rfl rfl ?_
        refine V_y (Y_extract rfl rfl) rfl rfl rfl ?_
        refine V_to (fun _ _ => rfl) ?_
        refine C_cond rfl (fun hc => ?_) (fun hc => ?_)
        · refine C_seq ?_
          refine C_region ?_
          refine V_alloc Tryz.zeroValue26 rfl ?_
          intro b13 w14 h15
          have h21 : (v_a_0).oneCell' = true := by obtain ⟨_, _, e, _⟩ := Sl.form h_a_0; rw [e]; rfl
          have h24 : (v_a_1).oneCell' = true := by obtain ⟨_, _, e, _⟩ := Sl.form h_a_1; rw [e]; rfl
          have h27 : (v_a_2).oneCell' = true := by obtain ⟨_, _, e, _⟩ := Sl.form h_a_2; rw [e]; rfl
          refine V_storeNew h15 Tryz.sizeOf26 rfl rfl rfl rfl (by exact (List.forall_mem_cons.2 ⟨h21, (List.forall_mem_cons.2 ⟨h24, (List.forall_mem_cons.2 ⟨h27, (fun _ h => nomatch h)⟩)⟩)⟩)) ?_
          intro w17 h18
          have hk29 := h18.kp (Dw := Dw)
          have h28 : El (α := know_Index) A w17 b13 0 a_ := h18.el hA ⟨[v_a_0], _, rfl, ⟨_, rfl, h_a_0⟩, ⟨[v_a_1], _, rfl, ⟨_, rfl, h_a_1⟩, ⟨_, rfl, h_a_2⟩⟩⟩
          have ht30 := Kp.tr (Dw := Dw) hk29 hA hB
          replace hH := Hp.kp (Dw := Dw) hH hk29
          replace h_b0 := Sl.tr (Dw := Dw) h_b0 ht30
          replace h_b1 := Sl.tr (Dw := Dw) h_b1 ht30
          replace h_b2 := Sl.tr (Dw := Dw) h_b2 ht30
          replace h_a_0 := Sl.tr (Dw := Dw) h_a_0 ht30
          replace h_a_1 := Sl.tr (Dw := Dw) h_a_1 ht30
          replace h_a_2 := Sl.tr (Dw := Dw) h_a_2 ht30
          replace hK := Tr.trans (Dw := Dw) hK ht30
          replace hB := Nat.le_trans hB ht30.ex.size
          replace hA := ht30.new
          refine V_to (fun _ _ => rfl) ?_
          refine C_seq ?_
          refine C_region ?_
          refine V_y (Y_move rfl) rfl rfl rfl ?_
          refine V_y (Y_asIS Tryz.underlying26 rfl) rfl rfl rfl ?_
          refine V_y (Y_move rfl) rfl rfl rfl ?_
          refine V_y (Y_extract rfl rfl) rfl rfl rfl ?_
          refine V_y (Y_extract rfl rfl) rfl rfl rfl ?_
          refine V_alloc Tryz.zeroValue26 rfl ?_
          intro b31 w33 h34
          have h39 : (v_b0).oneCell' = true := by obtain ⟨_, _, e, _⟩ := Sl.form h_b0; rw [e]; rfl
          have h42 : (v_b1).oneCell' = true := by obtain ⟨_, _, e, _⟩ := Sl.form h_b1; rw [e]; rfl
          have h45 : (v_b2).oneCell' = true := by obtain ⟨_, _, e, _⟩ := Sl.form h_b2; rw [e]; rfl
          refine V_storeNew h34 Tryz.sizeOf26 rfl rfl rfl rfl (by exact (List.forall_mem_cons.2 ⟨h39, (List.forall_mem_cons.2 ⟨h42, (List.forall_mem_cons.2 ⟨h45, (fun _ h => nomatch h)⟩)⟩)⟩)) ?_
          intro w35 h36
          have hk47 := h36.kp (Dw := Dw)
          have h46 : El (α := know_Index) A w35 b31 0 b := h36.el hA ⟨[v_b0], _, rfl, ⟨_, rfl, h_b0⟩, ⟨[v_b1], _, rfl, ⟨_, rfl, h_b1⟩, ⟨_, rfl, h_b2⟩⟩⟩
          have ht48 := Kp.tr (Dw := Dw) hk47 hA hB
          replace hH := Hp.kp (Dw := Dw) hH hk47
          replace h_b0 := Sl.tr (Dw := Dw) h_b0 ht48
          replace h_b1 := Sl.tr (Dw := Dw) h_b1 ht48
          replace h_b2 := Sl.tr (Dw := Dw) h_b2 ht48
          replace h28 := El.tr (Dw := Dw) h28 ht48
          replace hK := Tr.trans (Dw := Dw) hK ht48
          replace hB := Nat.le_trans hB ht48.ex.size
          replace hA := ht48.new
          refine V_y (Y_assign rfl) rfl rfl rfl ?_
          refine V_to (fun _ _ => rfl) ?_
          refine C_seq ?_
          obtain ⟨s50, ho49, hm⟩ := Option.bind_eq_some_iff.1 hm
          refine C_cutG (ι := (Nat → Prop)) (fun (A55 : (Nat → Prop)) => [(4, .bool s50)]) (fun (A55 : (Nat → Prop)) => fun w' => Hp w.heap.size A55 w' ([]) ∧ Tr Dw w.heap.size A w35 A55 w') ?_ ?_
          · have hr51 : Tr Dw w.heap.size A w35 A w35 := Tr.refl (Dw := Dw) hA
            refine C_region ?_
            refine V_y (Y_move rfl) rfl rfl rfl ?_
            refine V_y (Y_move rfl) rfl rfl rfl ?_
            rcases Bool.eq_false_or_eq_true (true) with hc57 | hc57
            · rw [if_pos hc57] at ho49
              refine V_ge rfl rfl rfl hc57 ?_
              have h58 := El_know_Index_0 h28
              refine V_y (Y_fieldAddr Tryz.underlying26 rfl Tryz.sizeOf23 (by decide) rfl) rfl rfl rfl ?_
              refine V_ge rfl rfl rfl hc57 ?_
              obtain ⟨v59, h60, h61⟩ := El.list h58
              refine V_y (Y_load h60 Tryz.isAgg23 rfl) rfl rfl rfl ?_
              refine V_ge rfl rfl rfl hc57 ?_
              have h62 := El_know_Index_0 h46
              refine V_y (Y_fieldAddr Tryz.underlying26 rfl Tryz.sizeOf23 (by decide) rfl) rfl rfl rfl ?_
              refine V_ge rfl rfl rfl hc57 ?_
              obtain ⟨v63, h64, h65⟩ := El.list h62
              refine V_y (Y_load h64 Tryz.isAgg23 rfl) rfl rfl rfl ?_
              refine V_ge rfl rfl rfl hc57 ?_
              obtain ⟨x66, hx66, ho49⟩ := Option.bind_eq_some_iff.1 ho49
              refine V_call Tryz.call28 rfl rfl rfl rfl (slices_Equal_Lint_int_c (Dw := Dw) w35 hA a_.ids v59 h61 b.ids v63 h65 hx66) ?_
              rintro _ w67 ⟨rfl, hk68⟩
              have ht69 := Kp.tr (Dw := Dw) hk68 hA hB
              replace hH := Hp.kp (Dw := Dw) hH hk68
              replace h28 := El.tr (Dw := Dw) h28 ht69
              replace h46 := El.tr (Dw := Dw) h46 ht69
              replace h58 := El.tr (Dw := Dw) h58 ht69
              replace h61 := Sl.tr (Dw := Dw) h61 ht69
              replace h62 := El.tr (Dw := Dw) h62 ht69
              replace h65 := Sl.tr (Dw := Dw) h65 ht69
              replace hK := Tr.trans (Dw := Dw) hK ht69
              replace hr51 := Tr.trans (Dw := Dw) hr51 ht69
              replace hB := Nat.le_trans hB ht69.ex.size
              replace hA := ht69.new
              refine V_y (Y_pick_te rfl hc57 rfl) rfl rfl rfl ?_
              refine V_y (Y_move rfl) rfl rfl rfl ?_
              rcases Bool.eq_false_or_eq_true (x66) with hc70 | hc70
              · rw [if_pos hc70] at ho49
                refine V_ge rfl rfl rfl hc70 ?_
                have h71 := El_know_Index_1 h28
                refine V_y (Y_fieldAddr Tryz.underlying26 rfl Tryz.sizeOf23 (by decide) rfl) rfl rfl rfl ?_
                refine V_ge rfl rfl rfl hc70 ?_
                obtain ⟨v72, h73, h74⟩ := El.list h71
                refine V_y (Y_load h73 Tryz.isAgg23 rfl) rfl rfl rfl ?_
                refine V_ge rfl rfl rfl hc70 ?_
                have h75 := El_know_Index_1 h46
                refine V_y (Y_fieldAddr Tryz.underlying26 rfl Tryz.sizeOf23 (by decide) rfl) rfl rfl rfl ?_
                refine V_ge rfl rfl rfl hc70 ?_
                obtain ⟨v76, h77, h78⟩ := El.list h75
                refine V_y (Y_load h77 Tryz.isAgg23 rfl) rfl rfl rfl ?_
                refine V_ge rfl rfl rfl hc70 ?_
                obtain ⟨x79, hx79, ho49⟩ := Option.bind_eq_some_iff.1 ho49
                refine V_call Tryz.call28 rfl rfl rfl rfl (slices_Equal_Lint_int_c (Dw := Dw) w67 hA a_.sizes v72 h74 b.sizes v76 h78 hx79) ?_
                rintro _ w80 ⟨rfl, hk81⟩
                have ht82 := Kp.tr (Dw := Dw) hk81 hA hB
                replace hH := Hp.kp (Dw := Dw) hH hk81
                replace h28 := El.tr (Dw := Dw) h28 ht82
                replace h46 := El.tr (Dw := Dw) h46 ht82
                replace h58 := El.tr (Dw := Dw) h58 ht82
                replace h61 := Sl.tr (Dw := Dw) h61 ht82
                replace h62 := El.tr (Dw := Dw) h62 ht82
                replace h65 := Sl.tr (Dw := Dw) h65 ht82
                replace h71 := El.tr (Dw := Dw) h71 ht82
                replace h74 := Sl.tr (Dw := Dw) h74 ht82
                replace h75 := El.tr (Dw := Dw) h75 ht82
                replace h78 := Sl.tr (Dw := Dw) h78 ht82
                replace hK := Tr.trans (Dw := Dw) hK ht82
                replace hr51 := Tr.trans (Dw := Dw) hr51 ht82
                replace hB := Nat.le_trans hB ht82.ex.size
                replace hA := ht82.new
                refine V_y (Y_pick_te rfl hc70 rfl) rfl rfl rfl ?_
                refine V_y (Y_move rfl) rfl rfl rfl ?_
                rcases Bool.eq_false_or_eq_true (x79) with hc83 | hc83
                · rw [if_pos hc83] at ho49
                  refine V_ge rfl rfl rfl hc83 ?_
                  have h84 := El_know_Index_2 h28
                  refine V_y (Y_fieldAddr Tryz.underlying26 rfl Tryz.sizeOf24 (by decide) rfl) rfl rfl rfl ?_
                  refine V_ge rfl rfl rfl hc83 ?_
                  obtain ⟨v85, h86, h87⟩ := El.list h84
                  refine V_y (Y_load h86 Tryz.isAgg24 rfl) rfl rfl rfl ?_
                  refine V_ge rfl rfl rfl hc83 ?_
                  have h88 := El_know_Index_2 h46
                  refine V_y (Y_fieldAddr Tryz.underlying26 rfl Tryz.sizeOf24 (by decide) rfl) rfl rfl rfl ?_
                  refine V_ge rfl rfl rfl hc83 ?_
                  obtain ⟨v89, h90, h91⟩ := El.list h88
                  refine V_y (Y_load h90 Tryz.isAgg24 rfl) rfl rfl rfl ?_
                  refine V_ge rfl rfl rfl hc83 ?_
                  obtain ⟨x94, hx94, ho49⟩ := Option.bind_eq_some_iff.1 ho49
                  refine V_call Tryz.call29 rfl rfl rfl rfl (slices_EqualFunc_Lknow_Term_Lknow_Term_know_Term_know_Term_c (Dw := Dw) w80 hA a_.terms v85 h87 b.terms v89 h91 (fun y107 y108 => portref2_Alike_4 y107 y108) 30 #[] #[] Tryz.call30 (fun w103 A104 ht105 h106 y95 v96 h97 y98 v99 h100 r101 h102 => (portref2_Alike_4_c (Dw := Dw) w103 h106 y95 v96 h97 y98 v99 h100  h102).mono (fun _ _ h => ⟨h.1, h.2⟩)) hx94) ?_
                  rintro _ w109 ⟨rfl, hk110⟩
                  have ht111 := Kp.tr (Dw := Dw) hk110 hA hB
                  replace hH := Hp.kp (Dw := Dw) hH hk110
                  replace h28 := El.tr (Dw := Dw) h28 ht111
                  replace h46 := El.tr (Dw := Dw) h46 ht111
                  replace h58 := El.tr (Dw := Dw) h58 ht111
                  replace h61 := Sl.tr (Dw := Dw) h61 ht111
                  replace h62 := El.tr (Dw := Dw) h62 ht111
                  replace h65 := Sl.tr (Dw := Dw) h65 ht111
                  replace h71 := El.tr (Dw := Dw) h71 ht111
                  replace h74 := Sl.tr (Dw := Dw) h74 ht111
                  replace h75 := El.tr (Dw := Dw) h75 ht111
                  replace h78 := Sl.tr (Dw := Dw) h78 ht111
                  replace h84 := El.tr (Dw := Dw) h84 ht111
                  replace h87 := Sl.tr (Dw := Dw) h87 ht111
                  replace h88 := El.tr (Dw := Dw) h88 ht111
                  replace h91 := Sl.tr (Dw := Dw) h91 ht111
                  replace hK := Tr.trans (Dw := Dw) hK ht111
                  replace hr51 := Tr.trans (Dw := Dw) hr51 ht111
                  replace hB := Nat.le_trans hB ht111.ex.size
                  replace hA := ht111.new
                  refine V_y (Y_pick_te rfl hc83 rfl) rfl rfl rfl ?_
                  refine V_y (Y_assign rfl) rfl rfl rfl ?_
                  obtain rfl := Option.some.inj ho49
                  refine V_end (fun a ha112 => ?_)
                  exact ⟨A, ha112.sub ⟨rfl, trivial⟩, ⟨hH, hr51⟩⟩
                · rw [if_neg (nt hc83)] at ho49
                  refine V_gn rfl rfl rfl hc83 rfl rfl rfl ?_
                  refine V_gn rfl rfl rfl hc83 rfl rfl rfl ?_
                  refine V_gn rfl rfl rfl hc83 rfl rfl rfl ?_
                  refine V_gn rfl rfl rfl hc83 rfl rfl rfl ?_
                  refine V_gn rfl rfl rfl hc83 rfl rfl rfl ?_
                  refine V_y (Y_pick_fe rfl hc83 rfl) rfl rfl rfl ?_
                  refine V_y (Y_assign rfl) rfl rfl rfl ?_
                  obtain rfl := Option.some.inj ho49
                  refine V_end (fun a ha113 => ?_)
                  exact ⟨A, ha113.sub ⟨rfl, trivial⟩, ⟨hH, hr51⟩⟩
              · rw [if_neg (nt hc70)] at ho49
                refine V_gn rfl rfl rfl hc70 rfl rfl rfl ?_
                refine V_gn rfl rfl rfl hc70 rfl rfl rfl ?_
                refine V_gn rfl rfl rfl hc70 rfl rfl rfl ?_
                refine V_gn rfl rfl rfl hc70 rfl rfl rfl ?_
                refine V_gn rfl rfl rfl hc70 rfl rfl rfl ?_
                refine V_y (Y_pick_fe rfl hc70 rfl) rfl rfl rfl ?_
                refine V_y (Y_move rfl) rfl rfl rfl ?_
                rcases Bool.eq_false_or_eq_true (false) with hc114 | hc114
                · rw [if_pos hc114] at ho49
                  refine V_ge rfl rfl rfl hc114 ?_
                  have h115 := El_know_Index_2 h28
                  refine V_y (Y_fieldAddr Tryz.underlying26 rfl Tryz.sizeOf24 (by decide) rfl) rfl rfl rfl ?_
                  refine V_ge rfl rfl rfl hc114 ?_
                  obtain ⟨v116, h117, h118⟩ := El.list h115
                  refine V_y (Y_load h117 Tryz.isAgg24 rfl) rfl rfl rfl ?_
                  refine V_ge rfl rfl rfl hc114 ?_
                  have h119 := El_know_Index_2 h46
                  refine V_y (Y_fieldAddr Tryz.underlying26 rfl Tryz.sizeOf24 (by decide) rfl) rfl rfl rfl ?_
                  refine V_ge rfl rfl rfl hc114 ?_
                  obtain ⟨v120, h121, h122⟩ := El.list h119
                  refine V_y (Y_load h121 Tryz.isAgg24 rfl) rfl rfl rfl ?_
                  refine V_ge rfl rfl rfl hc114 ?_
                  obtain ⟨x125, hx125, ho49⟩ := Option.bind_eq_some_iff.1 ho49
                  refine V_call Tryz.call29 rfl rfl rfl rfl (slices_EqualFunc_Lknow_Term_Lknow_Term_know_Term_know_Term_c (Dw := Dw) w67 hA a_.terms v116 h118 b.terms v120 h122 (fun y138 y139 => portref2_Alike_4 y138 y139) 30 #[] #[] Tryz.call30 (fun w134 A135 ht136 h137 y126 v127 h128 y129 v130 h131 r132 h133 => (portref2_Alike_4_c (Dw := Dw) w134 h137 y126 v127 h128 y129 v130 h131  h133).mono (fun _ _ h => ⟨h.1, h.2⟩)) hx125) ?_
                  rintro _ w140 ⟨rfl, hk141⟩
                  have ht142 := Kp.tr (Dw := Dw) hk141 hA hB
                  replace hH := Hp.kp (Dw := Dw) hH hk141
                  replace h28 := El.tr (Dw := Dw) h28 ht142
                  replace h46 := El.tr (Dw := Dw) h46 ht142
                  replace h58 := El.tr (Dw := Dw) h58 ht142
                  replace h61 := Sl.tr (Dw := Dw) h61 ht142
                  replace h62 := El.tr (Dw := Dw) h62 ht142
                  replace h65 := Sl.tr (Dw := Dw) h65 ht142
                  replace h115 := El.tr (Dw := Dw) h115 ht142
                  replace h118 := Sl.tr (Dw := Dw) h118 ht142
                  replace h119 := El.tr (Dw := Dw) h119 ht142
                  replace h122 := Sl.tr (Dw := Dw) h122 ht142
                  replace hK := Tr.trans (Dw := Dw) hK ht142
                  replace hr51 := Tr.trans (Dw := Dw) hr51 ht142
                  replace hB := Nat.le_trans hB ht142.ex.size
                  replace hA := ht142.new
                  refine V_y (Y_pick_te rfl hc114 rfl) rfl rfl rfl ?_
                  refine V_y (Y_assign rfl) rfl rfl rfl ?_
                  obtain rfl := Option.some.inj ho49
                  refine V_end (fun a ha143 => ?_)
                  exact ⟨A, ha143.sub ⟨rfl, trivial⟩, ⟨hH, hr51⟩⟩
                · rw [if_neg (nt hc114)] at ho49
                  refine V_gn rfl rfl rfl hc114 rfl rfl rfl ?_
                  refine V_gn rfl rfl rfl hc114 rfl rfl rfl ?_
                  refine V_gn rfl rfl rfl hc114 rfl rfl rfl ?_
                  refine V_gn rfl rfl rfl hc114 rfl rfl rfl ?_
                  refine V_gn rfl rfl rfl hc114 rfl rfl rfl ?_
                  refine V_y (Y_pick_fe rfl hc114 rfl) rfl rfl rfl ?_
                  refine V_y (Y_assign rfl) rfl rfl rfl ?_
                  obtain rfl := Option.some.inj ho49
                  refine V_end (fun a ha144 => ?_)
                  exact ⟨A, ha144.sub ⟨rfl, trivial⟩, ⟨hH, hr51⟩⟩
            · rw [if_neg (nt hc57)] at ho49
              refine V_gn rfl rfl rfl hc57 rfl rfl rfl ?_
              refine V_gn rfl rfl rfl hc57 rfl rfl rfl ?_
              refine V_gn rfl rfl rfl hc57 rfl rfl rfl ?_
              refine V_gn rfl rfl rfl hc57 rfl rfl rfl ?_
              refine V_gn rfl rfl rfl hc57 rfl rfl rfl ?_
              refine V_y (Y_pick_fe rfl hc57 rfl) rfl rfl rfl ?_
              refine V_y (Y_move rfl) rfl rfl rfl ?_
              rcases Bool.eq_false_or_eq_true (false) with hc145 | hc145
              · rw [if_pos hc145] at ho49
                refine V_ge rfl rfl rfl hc145 ?_
                have h146 := El_know_Index_1 h28
                refine V_y (Y_fieldAddr Tryz.underlying26 rfl Tryz.sizeOf23 (by decide) rfl) rfl rfl rfl ?_
                refine V_ge rfl rfl rfl hc145 ?_
                obtain ⟨v147, h148, h149⟩ := El.list h146
                refine V_y (Y_load h148 Tryz.isAgg23 rfl) rfl rfl rfl ?_
                refine V_ge rfl rfl rfl hc145 ?_
                have h150 := El_know_Index_1 h46
                refine V_y (Y_fieldAddr Tryz.underlying26 rfl Tryz.sizeOf23 (by decide) rfl) rfl rfl rfl ?_
                refine V_ge rfl rfl rfl hc145 ?_
                obtain ⟨v151, h152, h153⟩ := El.list h150
                refine V_y (Y_load h152 Tryz.isAgg23 rfl) rfl rfl rfl ?_
                refine V_ge rfl rfl rfl hc145 ?_
                obtain ⟨x154, hx154, ho49⟩ := Option.bind_eq_some_iff.1 ho49
                refine V_call Tryz.call28 rfl rfl rfl rfl (slices_Equal_Lint_int_c (Dw := Dw) w35 hA a_.sizes v147 h149 b.sizes v151 h153 hx154) ?_
                rintro _ w155 ⟨rfl, hk156⟩
                have ht157 := Kp.tr (Dw := Dw) hk156 hA hB
                replace hH := Hp.kp (Dw := Dw) hH hk156
                replace h28 := El.tr (Dw := Dw) h28 ht157
                replace h46 := El.tr (Dw := Dw) h46 ht157
                replace h146 := El.tr (Dw := Dw) h146 ht157
                replace h149 := Sl.tr (Dw := Dw) h149 ht157
                replace h150 := El.tr (Dw := Dw) h150 ht157
                replace h153 := Sl.tr (Dw := Dw) h153 ht157
                replace hK := Tr.trans (Dw := Dw) hK ht157
                replace hr51 := Tr.trans (Dw := Dw) hr51 ht157
                replace hB := Nat.le_trans hB ht157.ex.size
                replace hA := ht157.new
                refine V_y (Y_pick_te rfl hc145 rfl) rfl rfl rfl ?_
                refine V_y (Y_move rfl) rfl rfl rfl ?_
                rcases Bool.eq_false_or_eq_true (x154) with hc158 | hc158
                · rw [if_pos hc158] at ho49
                  refine V_ge rfl rfl rfl hc158 ?_
                  have h159 := El_know_Index_2 h28
                  refine V_y (Y_fieldAddr Tryz.underlying26 rfl Tryz.sizeOf24 (by decide) rfl) rfl rfl rfl ?_
                  refine V_ge rfl rfl rfl hc158 ?_
                  obtain ⟨v160, h161, h162⟩ := El.list h159
                  refine V_y (Y_load h161 Tryz.isAgg24 rfl) rfl rfl rfl ?_
                  refine V_ge rfl rfl rfl hc158 ?_
                  have h163 := El_know_Index_2 h46
                  refine V_y (Y_fieldAddr Tryz.underlying26 rfl Tryz.sizeOf24 (by decide) rfl) rfl rfl rfl ?_
                  refine V_ge rfl rfl rfl hc158 ?_
                  obtain ⟨v164, h165, h166⟩ := El.list h163
                  refine V_y (Y_load h165 Tryz.isAgg24 rfl) rfl rfl rfl ?_
                  refine V_ge rfl rfl rfl hc158 ?_
                  obtain ⟨x169, hx169, ho49⟩ := Option.bind_eq_some_iff.1 ho49
                  refine V_call Tryz.call29 rfl rfl rfl rfl (slices_EqualFunc_Lknow_Term_Lknow_Term_know_Term_know_Term_c (Dw := Dw) w155 hA a_.terms v160 h162 b.terms v164 h166 (fun y182 y183 => portref2_Alike_4 y182 y183) 30 #[] #[] Tryz.call30 (fun w178 A179 ht180 h181 y170 v171 h172 y173 v174 h175 r176 h177 => (portref2_Alike_4_c (Dw := Dw) w178 h181 y170 v171 h172 y173 v174 h175  h177).mono (fun _ _ h => ⟨h.1, h.2⟩)) hx169) ?_
                  rintro _ w184 ⟨rfl, hk185⟩
                  have ht186 := Kp.tr (Dw := Dw) hk185 hA hB
                  replace hH := Hp.kp (Dw := Dw) hH hk185
                  replace h28 := El.tr (Dw := Dw) h28 ht186
                  replace h46 := El.tr (Dw := Dw) h46 ht186
                  replace h146 := El.tr (Dw := Dw) h146 ht186
                  replace h149 := Sl.tr (Dw := Dw) h149 ht186
                  replace h150 := El.tr (Dw := Dw) h150 ht186
                  replace h153 := Sl.tr (Dw := Dw) h153 ht186
                  replace h159 := El.tr (Dw := Dw) h159 ht186
                  replace h162 := Sl.tr (Dw := Dw) h162 ht186
                  replace h163 := El.tr (Dw := Dw) h163 ht186
                  replace h166 := Sl.tr (Dw := Dw) h166 ht186
                  replace hK := Tr.trans (Dw := Dw) hK ht186
                  replace hr51 := Tr.trans (Dw := Dw) hr51 ht186
                  replace hB := Nat.le_trans hB ht186.ex.size
                  replace hA := ht186.new
                  refine V_y (Y_pick_te rfl hc158 rfl) rfl rfl rfl ?_
                  refine V_y (Y_assign rfl) rfl rfl rfl ?_
                  obtain rfl := Option.some.inj ho49
                  refine V_end (fun a ha187 => ?_)
                  exact ⟨A, ha187.sub ⟨rfl, trivial⟩, ⟨hH, hr51⟩⟩
                · rw [if_neg (nt hc158)] at ho49
                  refine V_gn rfl rfl rfl hc158 rfl rfl rfl ?_
                  refine V_gn rfl rfl rfl hc158 rfl rfl rfl ?_
                  refine V_gn rfl rfl rfl hc158 rfl rfl rfl ?_
                  refine V_gn rfl rfl rfl hc158 rfl rfl rfl ?_
                  refine V_gn rfl rfl rfl hc158 rfl rfl rfl ?_
                  refine V_y (Y_pick_fe rfl hc158 rfl) rfl rfl rfl ?_
                  refine V_y (Y_assign rfl) rfl rfl rfl ?_
                  obtain rfl := Option.some.inj ho49
                  refine V_end (fun a ha188 => ?_)
                  exact ⟨A, ha188.sub ⟨rfl, trivial⟩, ⟨hH, hr51⟩⟩
              · rw [if_neg (nt hc145)] at ho49
                refine V_gn rfl rfl rfl hc145 rfl rfl rfl ?_
                refine V_gn rfl rfl rfl hc145 rfl rfl rfl ?_
                refine V_gn rfl rfl rfl hc145 rfl rfl rfl ?_
                refine V_gn rfl rfl rfl hc145 rfl rfl rfl ?_
                refine V_gn rfl rfl rfl hc145 rfl rfl rfl ?_
                refine V_y (Y_pick_fe rfl hc145 rfl) rfl rfl rfl ?_
                refine V_y (Y_move rfl) rfl rfl rfl ?_
                rcases Bool.eq_false_or_eq_true (false) with hc189 | hc189
                · rw [if_pos hc189] at ho49
                  refine V_ge rfl rfl rfl hc189 ?_
                  have h190 := El_know_Index_2 h28
                  refine V_y (Y_fieldAddr Tryz.underlying26 rfl Tryz.sizeOf24 (by decide) rfl) rfl rfl rfl ?_
                  refine V_ge rfl rfl rfl hc189 ?_
                  obtain ⟨v191, h192, h193⟩ := El.list h190
                  refine V_y (Y_load h192 Tryz.isAgg24 rfl) rfl rfl rfl ?_
                  refine V_ge rfl rfl rfl hc189 ?_
                  have h194 := El_know_Index_2 h46
                  refine V_y (Y_fieldAddr Tryz.underlying26 rfl Tryz.sizeOf24 (by decide) rfl) rfl rfl rfl ?_
                  refine V_ge rfl rfl rfl hc189 ?_
                  obtain ⟨v195, h196, h197⟩ := El.list h194
                  refine V_y (Y_load h196 Tryz.isAgg24 rfl) rfl rfl rfl ?_
                  refine V_ge rfl rfl rfl hc189 ?_
                  obtain ⟨x200, hx200, ho49⟩ := Option.bind_eq_some_iff.1 ho49
                  refine V_call Tryz.call29 rfl rfl rfl rfl (slices_EqualFunc_Lknow_Term_Lknow_Term_know_Term_know_Term_c (Dw := Dw) w35 hA a_.terms v191 h193 b.terms v195 h197 (fun y213 y214 => portref2_Alike_4 y213 y214) 30 #[] #[] Tryz.call30 (fun w209 A210 ht211 h212 y201 v202 h203 y204 v205 h206 r207 h208 => (portref2_Alike_4_c (Dw := Dw) w209 h212 y201 v202 h203 y204 v205 h206  h208).mono (fun _ _ h => ⟨h.1, h.2⟩)) hx200) ?_
                  rintro _ w215 ⟨rfl, hk216⟩
                  have ht217 := Kp.tr (Dw := Dw) hk216 hA hB
                  replace hH := Hp.kp (Dw := Dw) hH hk216
                  replace h28 := El.tr (Dw := Dw) h28 ht217
                  replace h46 := El.tr (Dw := Dw) h46 ht217
                  replace h190 := El.tr (Dw := Dw) h190 ht217
                  replace h193 := Sl.tr (Dw := Dw) h193 ht217
                  replace h194 := El.tr (Dw := Dw) h194 ht217
                  replace h197 := Sl.tr (Dw := Dw) h197 ht217
                  replace hK := Tr.trans (Dw := Dw) hK ht217
                  replace hr51 := Tr.trans (Dw := Dw) hr51 ht217
                  replace hB := Nat.le_trans hB ht217.ex.size
                  replace hA := ht217.new
                  refine V_y (Y_pick_te rfl hc189 rfl) rfl rfl rfl ?_
                  refine V_y (Y_assign rfl) rfl rfl rfl ?_
                  obtain rfl := Option.some.inj ho49
                  refine V_end (fun a ha218 => ?_)
                  exact ⟨A, ha218.sub ⟨rfl, trivial⟩, ⟨hH, hr51⟩⟩
                · rw [if_neg (nt hc189)] at ho49
                  refine V_gn rfl rfl rfl hc189 rfl rfl rfl ?_
                  refine V_gn rfl rfl rfl hc189 rfl rfl rfl ?_
                  refine V_gn rfl rfl rfl hc189 rfl rfl rfl ?_
                  refine V_gn rfl rfl rfl hc189 rfl rfl rfl ?_
                  refine V_gn rfl rfl rfl hc189 rfl rfl rfl ?_
                  refine V_y (Y_pick_fe rfl hc189 rfl) rfl rfl rfl ?_
                  refine V_y (Y_assign rfl) rfl rfl rfl ?_
                  obtain rfl := Option.some.inj ho49
                  refine V_end (fun a ha219 => ?_)
                  exact ⟨A, ha219.sub ⟨rfl, trivial⟩, ⟨hH, hr51⟩⟩
          rintro A55 w52 ⟨hH56, hk53⟩ a ha54
          replace hK := Tr.trans (Dw := Dw) hK hk53
          replace hB := Nat.le_trans hB hk53.ex.size
          replace hA := hk53.new
          replace hH : Hp w.heap.size A55 w52 ([]) := hH56
          refine C_at (n := ⟨248, [], none⟩) (fun _ _ => rfl) ?_ ha54
          obtain rfl := Option.some.inj hm
          refine C_ret ?_
          try simp only [↓inBlock_ret, ↓then_ret]
          exact retQ rfl (Res.one Tryz.results7 rfl) ⟨rfl, hK.kp⟩
        · exact absurd hc (by decide)

set_option maxRecDepth 4000 in
set_option maxHeartbeats 4000000 in
theorem portlaw2_IndexMakes_c (w : World) {A : Nat → Prop} (hA : ∀ b, w.heap.size ≤ b → A b) (hT : Mx Tryz.prog 0 A w) (l : (List know_Entry)) (v_l : Value) (h_l : Sl A w v_l l) {r : Bool} (hm : portlaw2_IndexMakes l = some r) : Ret Tryz.prog 3 #[v_l] w fun v w' => v = .bool r ∧ Kp False w w' := by
  unfold portlaw2_IndexMakes at hm
  refine enter Tryz.func3 rfl Tryz.ntmps3 rfl ?_
  have hA0 := hA
  have hB := Nat.le_refl w.heap.size
  have hK : Tr False w.heap.size A w A w := Tr.refl (Dw := False) hA
  have hH : Hp w.heap.size A w [] := Hp.nil
  refine C_seq ?_
  refine C_region ?_
  refine V_y (Y_assign rfl) rfl rfl rfl ?_
  refine V_to (fun _ _ => rfl) ?_
  refine C_seq ?_
  refine C_region ?_
  refine V_y (Y_move rfl) rfl rfl rfl ?_
  obtain ⟨x3, hx3, hm⟩ := Option.bind_eq_some_iff.1 hm
  refine V_call Tryz.call5 rfl rfl rfl rfl (know_NewIndex_c (Dw := False) w hA l v_l h_l hx3) ?_
  rintro _ w10 ⟨v4, v6, v8, rfl, h5, h7, h9, hk11⟩
  have ht12 := Kp.tr (Dw := False) hk11 hA hB
  replace hH := Hp.kp (Dw := False) hH hk11
  replace h_l := Sl.tr (Dw := False) h_l ht12
  replace hK := Tr.trans (Dw := False) hK ht12
  replace hB := Nat.le_trans hB ht12.ex.size
  replace hA := ht12.new
  refine V_y (Y_move rfl) rfl rfl rfl ?_
  refine V_y (Y_extract rfl rfl) rfl rfl rfl ?_
  refine V_y (Y_extract rfl rfl) rfl rfl rfl ?_
  refine V_alloc Tryz.zeroValue26 rfl ?_
  intro b13 w14 h15
  have h21 : (v4).oneCell' = true := by obtain ⟨_, _, e, _⟩ := Sl.form h5; rw [e]; rfl
  have h24 : (v6).oneCell' = true := by obtain ⟨_, _, e, _⟩ := Sl.form h7; rw [e]; rfl
  have h27 : (v8).oneCell' = true := by obtain ⟨_, _, e, _⟩ := Sl.form h9; rw [e]; rfl
  refine V_storeNew h15 Tryz.sizeOf26 rfl rfl rfl rfl (by exact (List.forall_mem_cons.2 ⟨h21, (List.forall_mem_cons.2 ⟨h24, (List.forall_mem_cons.2 ⟨h27, (fun _ h => nomatch h)⟩)⟩)⟩)) ?_
  intro w17 h18
  have hk29 := h18.kp (Dw := False)
  have h28 : El (α := know_Index) A w17 b13 0 x3.1 := h18.el hA ⟨[v4], _, rfl, ⟨_, rfl, h5⟩, ⟨[v6], _, rfl, ⟨_, rfl, h7⟩, ⟨_, rfl, h9⟩⟩⟩
  have ht30 := Kp.tr (Dw := False) hk29 hA hB
  replace hH := Hp.kp (Dw := False) hH hk29
  replace h_l := Sl.tr (Dw := False) h_l ht30
  replace h5 := Sl.tr (Dw := False) h5 ht30
  replace h7 := Sl.tr (Dw := False) h7 ht30
  replace h9 := Sl.tr (Dw := False) h9 ht30
  replace hK := Tr.trans (Dw := False) hK ht30
  replace hB := Nat.le_trans hB ht30.ex.size
  replace hA := ht30.new
  refine V_y (Y_assign rfl) rfl rfl rfl ?_
  refine V_to (fun _ _ => rfl) ?_
  refine C_seq ?_
  refine C_region ?_
  refine V_y (Y_move rfl) rfl rfl rfl ?_
  obtain ⟨x31, hx31, hm⟩ := Option.bind_eq_some_iff.1 hm
  refine V_call Tryz.call6 rfl rfl rfl rfl (portref2_IndexOf_c w17 hA (Mx.tr (Dw := False) hT hK) l v_l h_l hx31) ?_
  rintro _ w38 ⟨v32, v34, v36, rfl, h33, h35, h37, hk39⟩
  have ht40 := Kp.tr (Dw := False) hk39 hA hB
  replace hH := Hp.kp (Dw := False) hH hk39
  replace h_l := Sl.tr (Dw := False) h_l ht40
  replace h28 := El.tr (Dw := False) h28 ht40
  replace hK := Tr.trans (Dw := False) hK ht40
  replace hB := Nat.le_trans hB ht40.ex.size
  replace hA := ht40.new
  refine V_y (Y_move rfl) rfl rfl rfl ?_
  refine V_y (Y_extract rfl rfl) rfl rfl rfl ?_
  refine V_y (Y_extract rfl rfl) rfl rfl rfl ?_
  refine V_alloc Tryz.zeroValue26 rfl ?_
  intro b41 w42 h43
  have h48 : (v32).oneCell' = true := by obtain ⟨_, _, e, _⟩ := Sl.form h33; rw [e]; rfl
  have h51 : (v34).oneCell' = true := by obtain ⟨_, _, e, _⟩ := Sl.form h35; rw [e]; rfl
  have h54 : (v36).oneCell' = true := by obtain ⟨_, _, e, _⟩ := Sl.form h37; rw [e]; rfl
  refine V_storeNew h43 Tryz.sizeOf26 rfl rfl rfl rfl (by exact (List.forall_mem_cons.2 ⟨h48, (List.forall_mem_cons.2 ⟨h51, (List.forall_mem_cons.2 ⟨h54, (fun _ h => nomatch h)⟩)⟩)⟩)) ?_
  intro w44 h45
  have hk56 := h45.kp (Dw := False)
  have h55 : El (α := know_Index) A w44 b41 0 x31.1 := h45.el hA ⟨[v32], _, rfl, ⟨_, rfl, h33⟩, ⟨[v34], _, rfl, ⟨_, rfl, h35⟩, ⟨_, rfl, h37⟩⟩⟩
  have ht57 := Kp.tr (Dw := False) hk56 hA hB
  replace hH := Hp.kp (Dw := False) hH hk56
  replace h_l := Sl.tr (Dw := False) h_l ht57
  replace h28 := El.tr (Dw := False) h28 ht57
  replace h33 := Sl.tr (Dw := False) h33 ht57
  replace h35 := Sl.tr (Dw := False) h35 ht57
  replace h37 := Sl.tr (Dw := False) h37 ht57
  replace hK := Tr.trans (Dw := False) hK ht57
  replace hB := Nat.le_trans hB ht57.ex.size
  replace hA := ht57.new
  refine V_y (Y_assign rfl) rfl rfl rfl ?_
  refine V_to (fun _ _ => rfl) ?_
  refine C_seq ?_
  obtain ⟨s59, ho58, hm⟩ := Option.bind_eq_some_iff.1 hm
  refine C_cutG (ι := (Nat → Prop)) (fun (A64 : (Nat → Prop)) => [(2, .bool s59)]) (fun (A64 : (Nat → Prop)) => fun w' => Hp w.heap.size A64 w' ([]) ∧ Tr False w.heap.size A w44 A64 w') ?_ ?_
  · have hr60 : Tr False w.heap.size A w44 A w44 := Tr.refl (Dw := False) hA
    refine C_region ?_
    refine V_y (Y_move rfl) rfl rfl rfl ?_
    refine V_y (Y_move rfl) rfl rfl rfl ?_
    refine V_y (Y_eql rfl rfl) rfl rfl rfl ?_
    refine V_y (Y_move rfl) rfl rfl rfl ?_
    rcases Bool.eq_false_or_eq_true (x3.2 == x31.2) with hc66 | hc66
    · rw [if_pos hc66] at ho58
      refine V_ge rfl rfl rfl hc66 ?_
      obtain ⟨v67, v69, v71, h73, h68, h70, h72⟩ := El_know_Index h28
      refine V_y (Y_loadA h73 Tryz.isAgg26 Tryz.sizeOf26 rfl) rfl rfl rfl ?_
      refine V_ge rfl rfl rfl hc66 ?_
      refine V_y (Y_mkIS Tryz.underlying26 rfl) rfl rfl rfl ?_
      refine V_ge rfl rfl rfl hc66 ?_
      obtain ⟨v74, v76, v78, h80, h75, h77, h79⟩ := El_know_Index h55
      refine V_y (Y_loadA h80 Tryz.isAgg26 Tryz.sizeOf26 rfl) rfl rfl rfl ?_
      refine V_ge rfl rfl rfl hc66 ?_
      refine V_y (Y_mkIS Tryz.underlying26 rfl) rfl rfl rfl ?_
      refine V_ge rfl rfl rfl hc66 ?_
      obtain ⟨x81, hx81, ho58⟩ := Option.bind_eq_some_iff.1 ho58
      refine V_call Tryz.call7 rfl rfl rfl rfl (portref2_Alike_c (Dw := False) w44 hA x3.1 v67 h68 v69 h70 v71 h72 x31.1 v74 h75 v76 h77 v78 h79 hx81) ?_
      rintro _ w82 ⟨rfl, hk83⟩
      have ht84 := Kp.tr (Dw := False) hk83 hA hB
      replace hH := Hp.kp (Dw := False) hH hk83
      replace h28 := El.tr (Dw := False) h28 ht84
      replace h55 := El.tr (Dw := False) h55 ht84
      replace h68 := Sl.tr (Dw := False) h68 ht84
      replace h70 := Sl.tr (Dw := False) h70 ht84
      replace h72 := Sl.tr (Dw := False) h72 ht84
      replace h75 := Sl.tr (Dw := False) h75 ht84
      replace h77 := Sl.tr (Dw := False) h77 ht84
      replace h79 := Sl.tr (Dw := False) h79 ht84
      replace hK := Tr.trans (Dw := False) hK ht84
      replace hr60 := Tr.trans (Dw := False) hr60 ht84
      replace hB := Nat.le_trans hB ht84.ex.size
      replace hA := ht84.new
      refine V_y (Y_pick_te rfl hc66 rfl) rfl rfl rfl ?_
      refine V_y (Y_assign rfl) rfl rfl rfl ?_
      obtain rfl := Option.some.inj ho58
      refine V_end (fun a ha85 => ?_)
      exact ⟨A, ha85.sub ⟨rfl, trivial⟩, ⟨hH, hr60⟩⟩
    · rw [if_neg (nt hc66)] at ho58
      refine V_gn rfl rfl rfl hc66 rfl rfl rfl ?_
      refine V_gn rfl rfl rfl hc66 rfl rfl rfl ?_
      refine V_gn rfl rfl rfl hc66 rfl rfl rfl ?_
      refine V_gn rfl rfl rfl hc66 rfl rfl rfl ?_
      refine V_gn rfl rfl rfl hc66 rfl rfl rfl ?_
      refine V_y (Y_pick_fe rfl hc66 rfl) rfl rfl rfl ?_
      refine V_y (Y_assign rfl) rfl rfl rfl ?_
      obtain rfl := Option.some.inj ho58
      refine V_end (fun a ha86 => ?_)
      exact ⟨A, ha86.sub ⟨rfl, trivial⟩, ⟨hH, hr60⟩⟩
  rintro A64 w61 ⟨hH65, hk62⟩ a ha63
  replace hK := Tr.trans (Dw := False) hK hk62
  replace hB := Nat.le_trans hB hk62.ex.size
  replace hA := hk62.new
  replace hH : Hp w.heap.size A64 w61 ([]) := hH65
  refine C_at (n := ⟨27, [], none⟩) (fun _ _ => rfl) ?_ ha63
  obtain rfl := Option.some.inj hm
  refine C_ret ?_
  try simp only [↓inBlock_ret, ↓then_ret]
  exact retQ rfl (Res.one Tryz.results3 rfl) ⟨rfl, hK.kp⟩

end Go.Proofs.YtldkdabcdbgpbaaGreatDoor.W
