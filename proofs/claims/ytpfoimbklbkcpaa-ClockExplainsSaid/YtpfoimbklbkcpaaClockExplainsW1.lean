/-
  Written by program (gen.py) from the IR of the dump: each function computes its model.
-/
import Derived.Test.YtpfoimbklbkcpaaClockExplainsW0
namespace Go.Proofs.Ytpfoimbklbkcpaa.W
open Go Go.RowKit Go.Pu Go.Gw Go.Proofs Go.Proofs.Ytpfoimbklbkcpaa.M
set_option linter.unusedVariables false
set_option linter.unusedSimpArgs false

set_option maxRecDepth 4000 in
set_option maxHeartbeats 4000000 in
theorem cmp_Or_api_Errno_c (w : World) {A : Nat → Prop} (vals : (List Int)) (v_vals : Value) (h_vals : Sl A w v_vals vals) {r : Int} (hm : cmp_Or_api_Errno vals = some r) : Ret Try.prog 36 #[v_vals] w fun v w' => v = .int .i64 r ∧ w = w' := by
  unfold cmp_Or_api_Errno at hm
  refine enter Try.func36 rfl Try.ntmps36 rfl ?_
  refine C_seq ?_
  refine C_region ?_
  refine V_y (Y_assign rfl) rfl rfl rfl ?_
  refine V_to (fun _ _ => rfl) ?_
  refine C_seq ?_
  refine C_region ?_
  refine V_y (Y_assign rfl) rfl rfl rfl ?_
  refine V_to (fun _ _ => rfl) ?_
  refine C_seq ?_
  refine C_seq ?_
  refine C_region ?_
  refine V_y (Y_move rfl) rfl rfl rfl ?_
  refine V_y (Y_lenSl h_vals rfl Try.underlying94 rfl) rfl rfl rfl ?_
  refine V_y (Y_move rfl) rfl rfl rfl ?_
  refine V_to (fun _ _ => rfl) ?_
  have hn19 := Sl.le h_vals
  obtain ⟨o3, ho3, hm⟩ := Option.bind_eq_some_iff.1 hm
  refine C_cutG (ι := Unit) (fun (s4 : Unit) => [(3, .int .i64 0)]) (fun (s4 : Unit) => fun w' => o3 = .fin s4 ∧ w = w') ?_ ?_
  · refine C_block ?_
    refine C_range ho3 (fun k6 _ a w' => ∃ i : Unit, Has ⟨18, [], none⟩ a ([(3, .int .i64 0), (6, v_vals), (7, .int .i64 (vals.length : Int)), (8, .int .i64 (k6 : Int))]) ∧ w = w') (fun a ha => ⟨(), ha.sub ⟨rfl, rfl, rfl, rfl, trivial⟩, rfl⟩) ?_
    rintro K k6 _ a _ ⟨_, ha28, rfl⟩ hle15 K18 h17
    refine C_of ?_ ha28
    refine C_seq (C_region (V_y (Y_lss rfl rfl) rfl rfl rfl (V_to (fun _ _ => rfl) ?_)))
    refine C_seq ?_
    refine C_cond rfl (fun hc20 => ?_) (fun hc20 => ?_)
    · have hlt16 := lt_of_dec hc20
      obtain ⟨x12, h13, h14⟩ := K18 hlt16
      refine C_skip_to (fun _ _ => rfl) ?_
      refine C_seq ?_
      refine C_block ?_
      refine C_seq ?_
      refine C_region ?_
      obtain ⟨x21, hx21, h13⟩ := Option.bind_eq_some_iff.1 h13
      refine V_indexAddr h_vals hx21 Try.underlying94 Try.sizeOf29 rfl rfl rfl ?_
      intro b22 o23 h24
      refine V_y (Y_load (El.int h24) Try.isAgg29 rfl) rfl rfl rfl ?_
      refine V_y (Y_assign rfl) rfl rfl rfl ?_
      refine V_to (fun _ _ => rfl) ?_
      refine C_seq ?_
      refine C_region ?_
      refine V_y (Y_move rfl) rfl rfl rfl ?_
      refine V_y (Y_move rfl) rfl rfl rfl ?_
      refine V_y (Y_neq rfl rfl) rfl rfl rfl ?_
      refine V_to (fun _ _ => rfl) ?_
      refine C_cond rfl (fun hc25 => ?_) (fun hc25 => ?_)
      · rw [if_pos hc25] at h13
        refine C_seq ?_
        refine C_region ?_
        refine V_y (Y_move rfl) rfl rfl rfl ?_
        refine V_y (Y_assign rfl) rfl rfl rfl ?_
        refine V_to (fun _ _ => rfl) ?_
        obtain rfl := Option.some.inj h13
        obtain rfl := (h14 : Lp.rt _ = _)
        rw [Lp.andThen_rt] at hm
        obtain rfl := Option.some.inj hm
        refine C_ret ?_
        try simp only [↓inBlock_ret, ↓then_ret]
        exact retQ rfl (Res.one Try.results36 rfl) ⟨rfl, rfl⟩
      · rw [if_neg (nt hc25)] at h13
        refine C_skip_to (fun _ _ => rfl) ?_
        refine C_region ?_
        refine V_y (Y_addI rfl rfl) rfl rfl rfl ?_
        refine V_y (Y_move rfl) rfl rfl rfl ?_
        obtain rfl := Option.some.inj h13
        refine V_end (fun a ha26 => ?_)
        exact ⟨(), hlt16, h14, ⟨(), ha26.sub ⟨rfl, rfl, rfl, (congrArg (fun z => some (Value.int .i64 z)) (w64_succ hlt16 hn19)), trivial⟩, rfl⟩⟩
    · refine C_exit (fun a ha27 => ?_)
      exact ⟨(), ha27.sub ⟨rfl, trivial⟩, ⟨(h17 (eq_of_dec hle15 hc20)).symm, rfl⟩⟩
  rintro s4 _ ⟨rfl, rfl⟩ a ha9
  rw [Lp.andThen_fin] at hm
  refine C_at (n := ⟨18, [], none⟩) (fun _ _ => rfl) ?_ ha9
  refine C_seq ?_
  refine C_region ?_
  refine V_y (Y_move rfl) rfl rfl rfl ?_
  refine V_y (Y_assign rfl) rfl rfl rfl ?_
  refine V_to (fun _ _ => rfl) ?_
  obtain rfl := Option.some.inj hm
  refine C_ret ?_
  try simp only [↓inBlock_ret, ↓then_ret]
  exact retQ rfl (Res.one Try.results36 rfl) ⟨rfl, rfl⟩

set_option maxRecDepth 4000 in
set_option maxHeartbeats 4000000 in
theorem level_Explain_1_c (w : World) {A : Nat → Prop} {B : Nat} (hB : B ≤ w.heap.size) (hA : ∀ b, w.heap.size ≤ b → A b) (to_ : Int) (what : Int) (p2 : Int) (b_p2 : Nat) (p3 : Int) (b_p3 : Nat) (p4 : (List level_Part)) (b_p4 : Nat) (v_p4 : Value) {L : List Ob} (hH : Hp B A w (obC b_p2 [.int .i64 p2] 3 :: obC b_p3 [.int .i64 p3] 3 :: obC b_p4 [v_p4] 43 :: obS (α := level_Part) 50 v_p4 p4 :: L)) {r : (Int × (List level_Part))} (hm : level_Explain_1 to_ what p2 p3 p4 = some r) : Ret Try.prog 46 #[.int .i64 to_, .int .i64 what, .pointer (some ⟨b_p2, 0, none⟩), .pointer (some ⟨b_p3, 0, none⟩), .pointer (some ⟨b_p4, 0, none⟩)] w fun v w' => ∃ u2_0, ∃ A1 : Nat → Prop, v = .tuple #[] ∧ Hp B A1 w' (obC b_p2 [.int .i64 p2] 3 :: obC b_p3 [.int .i64 r.1] 3 :: obC b_p4 [u2_0] 43 :: obS (α := level_Part) 50 u2_0 r.2 :: L) ∧ Tr B A w A1 w' := by
  unfold level_Explain_1 at hm
  refine enter Try.func46 rfl Try.ntmps46 rfl ?_
  have hK : Tr B A w A w := Tr.refl hA
  refine C_seq ?_
  refine C_region ?_
  refine V_y (Y_move rfl) rfl rfl rfl ?_
  refine V_y (Y_load (Hp.cell (j := 0) hH (i := 0) rfl rfl) Try.isAgg3 rfl) rfl rfl rfl ?_
  refine V_y (Y_min2 rfl rfl) rfl rfl rfl ?_
  refine V_y (Y_assign rfl) rfl rfl rfl ?_
  refine V_to (fun _ _ => rfl) ?_
  refine C_seq ?_
  refine C_seq ?_
  refine C_region ?_
  refine V_y (Y_move rfl) rfl rfl rfl ?_
  refine V_y (Y_load (Hp.cell (j := 0) hH (i := 1) rfl rfl) Try.isAgg3 rfl) rfl rfl rfl ?_
  refine V_y (Y_leq rfl rfl) rfl rfl rfl ?_
  refine V_to (fun _ _ => rfl) ?_
  refine C_cond rfl (fun hc3 => ?_) (fun hc3 => ?_)
  · rw [if_pos hc3] at hm
    obtain rfl := Option.some.inj hm
    refine C_ret ?_
    try simp only [↓inBlock_ret, ↓then_ret]
    exact retQ rfl (Res.zero Try.results46) ⟨v_p4, A, rfl, hH, hK⟩
  · rw [if_neg (nt hc3)] at hm
    refine C_skip_to (fun _ _ => rfl) ?_
    refine C_seq ?_
    refine C_seq ?_
    refine C_region ?_
    refine V_y (Y_load (Hp.cell (j := 0) hH (i := 2) rfl rfl) Try.isAgg43 rfl) rfl rfl rfl ?_
    refine V_y (Y_lenSl (Hp.any (α := level_Part) (e := 50) (v := v_p4) (l := p4) hH (i := 3) rfl) rfl Try.underlying43 rfl) rfl rfl rfl ?_
    refine V_y (Y_assign rfl) rfl rfl rfl ?_
    refine V_to (fun _ _ => rfl) ?_
    refine C_seq ?_
    refine C_region ?_
    refine V_y (Y_move rfl) rfl rfl rfl ?_
    refine V_y (Y_gtr rfl rfl) rfl rfl rfl ?_
    refine V_y (Y_move rfl) rfl rfl rfl ?_
    obtain ⟨s5, hs5, hm⟩ := Option.bind_eq_some_iff.1 hm
    refine V_cut 9 (fun _ : Unit => [(0, .int .i64 (if p2 < to_ then p2 else to_)), (1, .int .i64 what), (3, .pointer (some ⟨b_p3, 0, none⟩)), (4, .pointer (some ⟨b_p4, 0, none⟩)), (7, .int .i64 (p4.length : Int)), (27, .bool s5)]) (fun _ w' => w = w') ?_ ?_
    · simp only [List.take, List.drop]
      rcases Bool.eq_false_or_eq_true (decide ((0 : Int) < (p4.length : Int))) with hc4 | hc4
      · rw [if_pos hc4] at hs5
        refine V_ge rfl rfl rfl hc4 ?_
        refine V_y (Y_load (Hp.cell (j := 0) hH (i := 2) rfl rfl) Try.isAgg43 rfl) rfl rfl rfl ?_
        refine V_ge rfl rfl rfl hc4 ?_
        refine V_y (Y_move rfl) rfl rfl rfl ?_
        refine V_ge rfl rfl rfl hc4 ?_
        refine V_y (Y_subI rfl rfl) rfl rfl rfl ?_
        refine V_ge rfl rfl rfl hc4 ?_
        obtain ⟨x6, hx6, hs5⟩ := Option.bind_eq_some_iff.1 hs5
        refine V_indexAddrH (α := level_Part) (e := 50) (v := v_p4) (l := p4) hH (i := 3) rfl hx6 Try.underlying43 Try.sizeOf50 rfl rfl rfl ?_
        intro b7 o8 h9 hl10
        refine V_ge rfl rfl rfl hc4 ?_
        have h11 := El_level_Part_1 h9
        refine V_y (Y_fieldAddr Try.underlying50 rfl Try.sizeOf3 (by decide) rfl) rfl rfl rfl ?_
        refine V_ge rfl rfl rfl hc4 ?_
        refine V_y (Y_load (El.int h11) Try.isAgg3 rfl) rfl rfl rfl ?_
        refine V_ge rfl rfl rfl hc4 ?_
        refine V_y (Y_move rfl) rfl rfl rfl ?_
        refine V_ge rfl rfl rfl hc4 ?_
        refine V_y (Y_eql rfl rfl) rfl rfl rfl ?_
        refine V_y (Y_pick_te rfl hc4 rfl) rfl rfl rfl ?_
        obtain rfl := Option.some.inj hs5
        exact V_end fun a ha => ⟨(), ha.sub ⟨rfl, rfl, rfl, rfl, rfl, rfl, trivial⟩, rfl⟩
      · rw [if_neg (nt hc4)] at hs5
        refine V_gn rfl rfl rfl hc4 rfl rfl rfl ?_
        refine V_gn rfl rfl rfl hc4 rfl rfl rfl ?_
        refine V_gn rfl rfl rfl hc4 rfl rfl rfl ?_
        refine V_gn rfl rfl rfl hc4 rfl rfl rfl ?_
        refine V_gn rfl rfl rfl hc4 rfl rfl rfl ?_
        refine V_gn rfl rfl rfl hc4 rfl rfl rfl ?_
        refine V_gn rfl rfl rfl hc4 rfl rfl rfl ?_
        refine V_gn rfl rfl rfl hc4 rfl rfl rfl ?_
        refine V_y (Y_pick_fe rfl hc4 rfl) rfl rfl rfl ?_
        obtain rfl := Option.some.inj hs5
        exact V_end fun a ha => ⟨(), ha.sub ⟨rfl, rfl, rfl, rfl, rfl, rfl, trivial⟩, rfl⟩
    simp only [List.take, List.drop]
    rintro _ _ rfl
    refine V_to (fun _ _ => rfl) ?_
    obtain ⟨s13, ho12, hm⟩ := Option.bind_eq_some_iff.1 hm
    refine C_cutG (ι := (Value × (Nat → Prop))) (fun ⟨v15, A20⟩ => [(0, .int .i64 (if p2 < to_ then p2 else to_)), (3, .pointer (some ⟨b_p3, 0, none⟩))]) (fun ⟨v15, A20⟩ => fun w' => Hp B A20 w' (obC b_p2 [.int .i64 p2] 3 :: obC b_p3 [.int .i64 p3] 3 :: obC b_p4 [v15] 43 :: obS (α := level_Part) 50 v15 s13 :: L) ∧ Tr B A w A20 w') ?_ ?_
    · have hr14 : Tr B A w A w := Tr.refl hA
      refine C_cond rfl (fun hc22 => ?_) (fun hc22 => ?_)
      · rw [if_pos hc22] at ho12
        refine C_region ?_
        refine V_y (Y_load (Hp.cell (j := 0) hH (i := 2) rfl rfl) Try.isAgg43 rfl) rfl rfl rfl ?_
        refine V_y (Y_move rfl) rfl rfl rfl ?_
        refine V_y (Y_subI rfl rfl) rfl rfl rfl ?_
        refine V_y (Y_move rfl) rfl rfl rfl ?_
        obtain ⟨x23, hx23, ho12⟩ := Option.bind_eq_some_iff.1 ho12
        refine V_indexAddrH (α := level_Part) (e := 50) (v := v_p4) (l := p4) hH (i := 3) rfl hx23 Try.underlying43 Try.sizeOf50 rfl rfl rfl ?_
        intro b24 o25 h26 hl27
        have h28 := El_level_Part_0 h26
        refine V_y (Y_fieldAddr Try.underlying50 rfl Try.sizeOf48 (by decide) rfl) rfl rfl rfl ?_
        have h29 := El_cal_Span_1 h28
        refine V_y (Y_fieldAddr Try.underlying48 rfl Try.sizeOf3 (by decide) rfl) rfl rfl rfl ?_
        obtain ⟨x30, hx30, ho12⟩ := Option.bind_eq_some_iff.1 ho12
        have hp34 : ∀ c1, GoT.rep A w c1 x23 → GoT.rep A w (c1.take 1 ++ (.int .i64 (if p2 < to_ then p2 else to_) : Value).cells.toList ++ c1.drop (1 + 1)) ({ (x23 : level_Part) with span := { (x23.span : cal_Span) with to_ := (if p2 < to_ then p2 else to_) } }) := (fun _ h => by obtain ⟨_, _, rfl, ⟨_, _, rfl, rfl, rfl⟩, rfl⟩ := h; exact ⟨[_, _], _, rfl, ⟨[_], _, rfl, rfl, rfl⟩, rfl⟩)
        refine V_storeFH (α := level_Part) (e := 50) (v := v_p4) (l := p4) (foff := 1) hH (i := 3) rfl hl27 hx23 hx30 hp34 Try.sizeOf3 rfl (by simp [Value.cells, Value.oneCell']) (by decide) hB hA (congrArg (fun z => some (Value.pointer (some ⟨_, z, none⟩))) (by simp [Nat.add_assoc])) rfl ?_
        intro w31 hH32 ht33
        replace hK := Tr.trans hK ht33
        replace hr14 := Tr.trans hr14 ht33
        replace hB := Nat.le_trans hB ht33.ex.size
        replace hA := ht33.new
        replace hH : Hp B A w31 (obC b_p2 [.int .i64 p2] 3 :: obC b_p3 [.int .i64 p3] 3 :: obC b_p4 [v_p4] 43 :: obS (α := level_Part) 50 v_p4 x30 :: L) := hH32
        obtain rfl := Option.some.inj ho12
        refine V_end (fun a ha35 => ?_)
        exact ⟨(v_p4, A), ha35.sub ⟨rfl, rfl, trivial⟩, ⟨hH, hr14⟩⟩
      · rw [if_neg (nt hc22)] at ho12
        refine C_region ?_
        refine V_y (Y_load (Hp.cell (j := 0) hH (i := 2) rfl rfl) Try.isAgg43 rfl) rfl rfl rfl ?_
        refine V_y (Y_load (Hp.cell (j := 0) hH (i := 1) rfl rfl) Try.isAgg3 rfl) rfl rfl rfl ?_
        refine V_y (Y_move rfl) rfl rfl rfl ?_
        refine V_y (Y_build Try.underlying48 Try.zeroValue48 (Try_places48 _ Try.underlying48) rfl (by with_unfolding_all rfl)) rfl rfl rfl ?_
        refine V_y (Y_move rfl) rfl rfl rfl ?_
        refine V_y (Y_build (cells := #[.int .i64 p3, .int .i64 (if p2 < to_ then p2 else to_), .int .i64 what]) Try.underlying50 Try.zeroValue50 (Try_places50 _ Try.underlying50) rfl (by generalize ((if p2 < to_ then p2 else to_) : Int) = z36; with_unfolding_all rfl)) rfl rfl rfl ?_
        refine V_buildSlice (l := ([(⟨(⟨p3, (if p2 < to_ then p2 else to_)⟩ : cal_Span), what⟩ : level_Part)] : List level_Part)) (len := 1) Try.underlying43 Try.sizeOf50 Try.zeroValue50 rfl (by with_unfolding_all rfl) (by decide) (by decide) hA ⟨[.int .i64 p3, .int .i64 (if p2 < to_ then p2 else to_), .int .i64 what], _, rfl, ⟨[.int .i64 p3, .int .i64 (if p2 < to_ then p2 else to_)], _, rfl, ⟨[.int .i64 p3], _, rfl, rfl, rfl⟩, rfl⟩, rfl⟩ rfl rfl ?_
        intro v37 w38 hk40 h39
        have ht41 := Kp.tr hk40 hA hB
        replace hH := Hp.kp hH hk40
        replace hK := Tr.trans hK ht41
        replace hr14 := Tr.trans hr14 ht41
        replace hB := Nat.le_trans hB ht41.ex.size
        replace hA := ht41.new
        obtain ⟨x42, hx42, ho12⟩ := Option.bind_eq_some_iff.1 ho12
        refine V_appendH (e := 50) (v := v_p4) (l := p4) (ti := Try.t50) (bytes := 24) (lim := 5864062014805) hH (i := 3) rfl h39 hx42 Try.underlying43 Try_info50 rfl rfl rfl rfl (by decide) (by decide) (by decide) hB hA rfl rfl rfl ?_
        intro v43 w44 A45 hH46 ht47
        replace h39 := Sl.tr h39 ht47
        replace hK := Tr.trans hK ht47
        replace hr14 := Tr.trans hr14 ht47
        replace hB := Nat.le_trans hB ht47.ex.size
        replace hA := ht47.new
        replace hH : Hp B A45 w44 (obC b_p2 [.int .i64 p2] 3 :: obC b_p3 [.int .i64 p3] 3 :: obC b_p4 [v_p4] 43 :: obS (α := level_Part) 50 v43 x42 :: L) := hH46
        have h53 : (v43).oneCell' = true := by obtain ⟨_, _, e, _⟩ := Hp.form (α := level_Part) (e := 50) (v := v43) (l := x42) hH (i := 3) rfl; rw [e]; rfl
        refine V_storeC (off := 0) (ds := [v43]) hH (i := 2) rfl Try.sizeOf43 (by rw [← Array.length_toList, Value.cells_one h53]; rfl) (Nat.le_of_ble_eq_true rfl) (by intro u hu; rw [Value.cells_one h53] at hu; simp at hu; subst hu; assumption) (by rw [Value.cells_one h53]; rfl) hB hA rfl rfl ?_
        intro w48 hH49 ht50
        replace h39 := Sl.tr h39 ht50
        replace hK := Tr.trans hK ht50
        replace hr14 := Tr.trans hr14 ht50
        replace hB := Nat.le_trans hB ht50.ex.size
        replace hA := ht50.new
        replace hH : Hp B A45 w48 (obC b_p2 [.int .i64 p2] 3 :: obC b_p3 [.int .i64 p3] 3 :: obC b_p4 [v43] 43 :: obS (α := level_Part) 50 v43 x42 :: L) := hH49
        obtain rfl := Option.some.inj ho12
        refine V_end (fun a ha54 => ?_)
        exact ⟨(v43, A45), ha54.sub ⟨rfl, rfl, trivial⟩, ⟨hH, hr14⟩⟩
    rintro ⟨v15, A20⟩ w17 ⟨hH21, hk18⟩ a ha19
    replace hK := Tr.trans hK hk18
    replace hB := Nat.le_trans hB hk18.ex.size
    replace hA := hk18.new
    replace hH : Hp B A20 w17 (obC b_p2 [.int .i64 p2] 3 :: obC b_p3 [.int .i64 p3] 3 :: obC b_p4 [v15] 43 :: obS (α := level_Part) 50 v15 s13 :: L) := hH21
    refine C_at (n := ⟨44, [], none⟩) (fun _ _ => rfl) ?_ ha19
    refine C_region ?_
    refine V_y (Y_move rfl) rfl rfl rfl ?_
    refine V_storeC (off := 0) (ds := [.int .i64 (if p2 < to_ then p2 else to_)]) hH (i := 1) rfl Try.sizeOf3 rfl (Nat.le_of_ble_eq_true rfl) (by simp [Value.cells, Value.oneCell']) rfl hB hA rfl rfl ?_
    intro w55 hH56 ht57
    replace hK := Tr.trans hK ht57
    replace hB := Nat.le_trans hB ht57.ex.size
    replace hA := ht57.new
    replace hH : Hp B A20 w55 (obC b_p2 [.int .i64 p2] 3 :: obC b_p3 [.int .i64 (if p2 < to_ then p2 else to_)] 3 :: obC b_p4 [v15] 43 :: obS (α := level_Part) 50 v15 s13 :: L) := hH56
    refine V_end (fun a ha58 => ?_)
    obtain rfl := Option.some.inj hm
    try simp only [↓inBlock_ret, ↓then_ret]
    exact normQ (retQ rfl (Res.zero Try.results46) ⟨v15, A20, rfl, hH, hK⟩ a ha58)

set_option maxRecDepth 4000 in
set_option maxHeartbeats 4000000 in
theorem cal_stretch_c (w : World) (from_ : Int) (to_ : Int) : Ret Try.prog 74 #[.int .i64 from_, .int .i64 to_] w fun v w' => v = .int .i64 (cal_stretch from_ to_) ∧ w = w' := by
  generalize hm : cal_stretch from_ to_ = r
  unfold cal_stretch at hm
  refine enter Try.func74 rfl Try.ntmps74 rfl ?_
  refine C_seq ?_
  refine C_region ?_
  refine V_y (Y_assign rfl) rfl rfl rfl ?_
  refine V_to (fun _ _ => rfl) ?_
  refine C_seq ?_
  refine C_block ?_
  refine C_seq ?_
  refine C_region ?_
  refine V_y (Y_move rfl) rfl rfl rfl ?_
  refine V_call Try.call60 rfl rfl rfl rfl (cal_within_c w from_ 0 3000000) ?_
  rintro _ _ ⟨rfl, rfl⟩
  refine V_y (Y_not rfl) rfl rfl rfl ?_
  refine V_y (Y_move rfl) rfl rfl rfl ?_
  refine V_cut 4 (fun _ : Unit => [(0, .int .i64 from_), (1, .int .i64 to_), (13, .bool ((!(cal_within from_ 0 3000000)) || (!(cal_within to_ 0 3000001))))]) (fun _ w' => w = w') ?_ ?_
  · simp only [List.take, List.drop]
    rcases Bool.eq_false_or_eq_true (!(cal_within from_ 0 3000000)) with hc1 | hc1
    · refine V_gn rfl rfl rfl hc1 rfl rfl rfl ?_
      refine V_gn rfl rfl rfl hc1 rfl rfl rfl ?_
      refine V_gn rfl rfl rfl hc1 rfl rfl rfl ?_
      refine V_y (Y_pick_te rfl hc1 rfl) rfl rfl rfl ?_
      exact V_end fun a ha => ⟨(), ha.sub ⟨rfl, rfl, (by rw [hc1]; rfl), trivial⟩, rfl⟩
    · refine V_ge rfl rfl rfl hc1 ?_
      refine V_y (Y_move rfl) rfl rfl rfl ?_
      refine V_ge rfl rfl rfl hc1 ?_
      refine V_call Try.call60 rfl rfl rfl rfl (cal_within_c w to_ 0 3000001) ?_
      rintro _ _ ⟨rfl, rfl⟩
      refine V_ge rfl rfl rfl hc1 ?_
      refine V_y (Y_not rfl) rfl rfl rfl ?_
      refine V_y (Y_pick_fe rfl hc1 rfl) rfl rfl rfl ?_
      exact V_end fun a ha => ⟨(), ha.sub ⟨rfl, rfl, (by rw [hc1]; rfl), trivial⟩, rfl⟩
  simp only [List.take, List.drop]
  rintro _ _ rfl
  refine V_y (Y_assign rfl) rfl rfl rfl ?_
  refine V_to (fun _ _ => rfl) ?_
  refine C_cond rfl (fun hc3 => ?_) (fun hc3 => ?_)
  · rw [if_pos hc3] at hm
    refine C_seq ?_
    refine C_region ?_
    refine V_y (Y_assign rfl) rfl rfl rfl ?_
    refine V_to (fun _ _ => rfl) ?_
    obtain rfl := hm
    refine C_ret ?_
    try simp only [↓inBlock_ret, ↓then_ret]
    exact retQ rfl (Res.one Try.results74 rfl) ⟨rfl, rfl⟩
  · rw [if_neg (nt hc3)] at hm
    refine C_seq ?_
    refine C_region ?_
    refine V_y (Y_move rfl) rfl rfl rfl ?_
    refine V_y (Y_move rfl) rfl rfl rfl ?_
    refine V_y (Y_gtr rfl rfl) rfl rfl rfl ?_
    refine V_y (Y_assign rfl) rfl rfl rfl ?_
    refine V_to (fun _ _ => rfl) ?_
    refine C_cond rfl (fun hc4 => ?_) (fun hc4 => ?_)
    · rw [if_pos hc4] at hm
      refine C_seq ?_
      refine C_region ?_
      refine V_y (Y_assign rfl) rfl rfl rfl ?_
      refine V_to (fun _ _ => rfl) ?_
      obtain rfl := hm
      refine C_ret ?_
      try simp only [↓inBlock_ret, ↓then_ret]
      exact retQ rfl (Res.one Try.results74 rfl) ⟨rfl, rfl⟩
    · rw [if_neg (nt hc4)] at hm
      refine C_skip_to (fun _ _ => rfl) ?_
      refine C_seq ?_
      refine C_region ?_
      refine V_y (Y_assign rfl) rfl rfl rfl ?_
      refine V_to (fun _ _ => rfl) ?_
      obtain rfl := hm
      refine C_ret ?_
      try simp only [↓inBlock_ret, ↓then_ret]
      exact retQ rfl (Res.one Try.results74 rfl) ⟨rfl, rfl⟩

set_option maxRecDepth 4000 in
set_option maxHeartbeats 4000000 in
theorem cal_Calendar_open_c (w : World) {A : Nat → Prop} (hA : ∀ b, w.heap.size ≤ b → A b) (c : cal_Calendar) (v_c0 : Value) (h_c0 : Sl A w v_c0 c.zone.changes) (v_c1 : Value) (h_c1 : Sl A w v_c1 c.week) (v_c2 : Value) (h_c2 : Sl A w v_c2 c.specials) (from_ : Int) (to_ : Int) {r : (cal_Calendar × Int × Int)} (hm : cal_Calendar_open c from_ to_ = some r) : Ret Try.prog 75 #[.agg #[.int .i64 c.zone.offset, v_c0, v_c1, v_c2], .int .i64 from_, .int .i64 to_] w fun v w' => ∃ c0 c1 c2, v = .func (.func 87) #[] #[.pointer (some ⟨c0, 0, none⟩), .pointer (some ⟨c1, 0, none⟩), .pointer (some ⟨c2, 0, none⟩)] ∧ El A w' c0 0 r.1 ∧ El A w' c1 0 r.2.1 ∧ El A w' c2 0 r.2.2 ∧ Kp w w' := by
  unfold cal_Calendar_open at hm
  refine enter Try.func75 rfl Try.ntmps75 rfl ?_
  have hA0 := hA
  have hB := Nat.le_refl w.heap.size
  have hK : Tr w.heap.size A w A w := Tr.refl hA
  have hH : Hp w.heap.size A w [] := Hp.nil
  refine C_seq ?_
  refine C_region ?_
  refine V_box rfl rfl ?_
  intro b7 w9 h10
  have hk12 := h10.kp
  have h11 : El (α := cal_Calendar) A w9 b7 0 c := h10.el hA ⟨[.int .i64 c.zone.offset, v_c0], _, rfl, ⟨[.int .i64 c.zone.offset], _, rfl, rfl, ⟨_, rfl, h_c0⟩⟩, ⟨[v_c1], _, rfl, ⟨_, rfl, h_c1⟩, ⟨_, rfl, h_c2⟩⟩⟩
  have ht13 := Kp.tr hk12 hA hB
  replace hH := Hp.kp hH hk12
  replace h_c0 := Sl.tr h_c0 ht13
  replace h_c1 := Sl.tr h_c1 ht13
  replace h_c2 := Sl.tr h_c2 ht13
  replace hK := Tr.trans hK ht13
  replace hB := Nat.le_trans hB ht13.ex.size
  replace hA := ht13.new
  refine V_box rfl rfl ?_
  intro b14 w15 h16
  have hk18 := h16.kp
  have h17 : El (α := Int) A w15 b14 0 from_ := h16.el hA rfl
  have ht19 := Kp.tr hk18 hA hB
  replace hH := Hp.kp hH hk18
  replace h_c0 := Sl.tr h_c0 ht19
  replace h_c1 := Sl.tr h_c1 ht19
  replace h_c2 := Sl.tr h_c2 ht19
  replace h11 := El.tr h11 ht19
  replace hK := Tr.trans hK ht19
  replace hB := Nat.le_trans hB ht19.ex.size
  replace hA := ht19.new
  refine V_box rfl rfl ?_
  intro b20 w21 h22
  have hk24 := h22.kp
  have h23 : El (α := Int) A w21 b20 0 to_ := h22.el hA rfl
  have ht25 := Kp.tr hk24 hA hB
  replace hH := Hp.kp hH hk24
  replace h_c0 := Sl.tr h_c0 ht25
  replace h_c1 := Sl.tr h_c1 ht25
  replace h_c2 := Sl.tr h_c2 ht25
  replace h11 := El.tr h11 ht25
  replace h17 := El.tr h17 ht25
  replace hK := Tr.trans hK ht25
  replace hB := Nat.le_trans hB ht25.ex.size
  replace hA := ht25.new
  refine V_y (Y_assign rfl) rfl rfl rfl ?_
  refine V_to (fun _ _ => rfl) ?_
  refine C_seq ?_
  refine C_region ?_
  refine V_y (Y_makeFunc rfl rfl) rfl rfl rfl ?_
  refine V_y (Y_assign rfl) rfl rfl rfl ?_
  refine V_to (fun _ _ => rfl) ?_
  obtain rfl := Option.some.inj hm
  refine C_ret ?_
  try simp only [↓inBlock_ret, ↓then_ret]
  exact retQ rfl (Res.one Try.results75 rfl) ⟨b7, b14, b20, rfl, (El.out h11 hA0 hK), (El.out h17 hA0 hK), (El.out h23 hA0 hK), hK.kp⟩

set_option maxRecDepth 4000 in
set_option maxHeartbeats 4000000 in
theorem cal_Calendar_shifts_c (w : World) {A : Nat → Prop} (hA : ∀ b, w.heap.size ≤ b → A b) (c : cal_Calendar) (v_c0 : Value) (h_c0 : Sl A w v_c0 c.zone.changes) (v_c1 : Value) (h_c1 : Sl A w v_c1 c.week) (v_c2 : Value) (h_c2 : Sl A w v_c2 c.specials) (from_ : Int) (to_ : Int) {r : (cal_Calendar × Int × Int)} (hm : cal_Calendar_shifts c from_ to_ = some r) : Ret Try.prog 88 #[.agg #[.int .i64 c.zone.offset, v_c0, v_c1, v_c2], .int .i64 from_, .int .i64 to_] w fun v w' => ∃ c0 c1 c2, v = .func (.func 105) #[] #[.pointer (some ⟨c0, 0, none⟩), .pointer (some ⟨c1, 0, none⟩), .pointer (some ⟨c2, 0, none⟩)] ∧ El A w' c0 0 r.1 ∧ El A w' c1 0 r.2.1 ∧ El A w' c2 0 r.2.2 ∧ Kp w w' := by
  unfold cal_Calendar_shifts at hm
  refine enter Try.func88 rfl Try.ntmps88 rfl ?_
  have hA0 := hA
  have hB := Nat.le_refl w.heap.size
  have hK : Tr w.heap.size A w A w := Tr.refl hA
  have hH : Hp w.heap.size A w [] := Hp.nil
  refine C_seq ?_
  refine C_region ?_
  refine V_box rfl rfl ?_
  intro b7 w9 h10
  have hk12 := h10.kp
  have h11 : El (α := cal_Calendar) A w9 b7 0 c := h10.el hA ⟨[.int .i64 c.zone.offset, v_c0], _, rfl, ⟨[.int .i64 c.zone.offset], _, rfl, rfl, ⟨_, rfl, h_c0⟩⟩, ⟨[v_c1], _, rfl, ⟨_, rfl, h_c1⟩, ⟨_, rfl, h_c2⟩⟩⟩
  have ht13 := Kp.tr hk12 hA hB
  replace hH := Hp.kp hH hk12
  replace h_c0 := Sl.tr h_c0 ht13
  replace h_c1 := Sl.tr h_c1 ht13
  replace h_c2 := Sl.tr h_c2 ht13
  replace hK := Tr.trans hK ht13
  replace hB := Nat.le_trans hB ht13.ex.size
  replace hA := ht13.new
  refine V_box rfl rfl ?_
  intro b14 w15 h16
  have hk18 := h16.kp
  have h17 : El (α := Int) A w15 b14 0 from_ := h16.el hA rfl
  have ht19 := Kp.tr hk18 hA hB
  replace hH := Hp.kp hH hk18
  replace h_c0 := Sl.tr h_c0 ht19
  replace h_c1 := Sl.tr h_c1 ht19
  replace h_c2 := Sl.tr h_c2 ht19
  replace h11 := El.tr h11 ht19
  replace hK := Tr.trans hK ht19
  replace hB := Nat.le_trans hB ht19.ex.size
  replace hA := ht19.new
  refine V_box rfl rfl ?_
  intro b20 w21 h22
  have hk24 := h22.kp
  have h23 : El (α := Int) A w21 b20 0 to_ := h22.el hA rfl
  have ht25 := Kp.tr hk24 hA hB
  replace hH := Hp.kp hH hk24
  replace h_c0 := Sl.tr h_c0 ht25
  replace h_c1 := Sl.tr h_c1 ht25
  replace h_c2 := Sl.tr h_c2 ht25
  replace h11 := El.tr h11 ht25
  replace h17 := El.tr h17 ht25
  replace hK := Tr.trans hK ht25
  replace hB := Nat.le_trans hB ht25.ex.size
  replace hA := ht25.new
  refine V_y (Y_assign rfl) rfl rfl rfl ?_
  refine V_to (fun _ _ => rfl) ?_
  refine C_seq ?_
  refine C_region ?_
  refine V_y (Y_makeFunc rfl rfl) rfl rfl rfl ?_
  refine V_y (Y_assign rfl) rfl rfl rfl ?_
  refine V_to (fun _ _ => rfl) ?_
  obtain rfl := Option.some.inj hm
  refine C_ret ?_
  try simp only [↓inBlock_ret, ↓then_ret]
  exact retQ rfl (Res.one Try.results88 rfl) ⟨b7, b14, b20, rfl, (El.out h11 hA0 hK), (El.out h17 hA0 hK), (El.out h23 hA0 hK), hK.kp⟩

set_option maxRecDepth 4000 in
set_option maxHeartbeats 4000000 in
theorem cal_Zone_parts_c (w : World) {A : Nat → Prop} (hA : ∀ b, w.heap.size ≤ b → A b) (z : cal_Zone) (v_z : Value) (h_z : Sl A w v_z z.changes) {r : (List cal_part)} (hm : cal_Zone_parts z = some r) : Ret Try.prog 106 #[.agg #[.int .i64 z.offset, v_z]] w fun v w' => ∃ s0, v = s0 ∧ Ownd 139 w w' s0 r ∧ Kp w w' := by
  unfold cal_Zone_parts at hm
  refine enter Try.func106 rfl Try.ntmps106 rfl ?_
  have hA0 := hA
  have hB := Nat.le_refl w.heap.size
  have hK : Tr w.heap.size A w A w := Tr.refl hA
  have hH : Hp w.heap.size A w [] := Hp.nil
  refine C_seq ?_
  refine C_region ?_
  refine V_box rfl rfl ?_
  intro b3 w4 h5
  have hk7 := h5.kp
  have h6 : El (α := cal_Zone) A w4 b3 0 z := h5.el hA ⟨[.int .i64 z.offset], _, rfl, rfl, ⟨_, rfl, h_z⟩⟩
  have ht8 := Kp.tr hk7 hA hB
  replace hH := Hp.kp hH hk7
  replace h_z := Sl.tr h_z ht8
  replace hK := Tr.trans hK ht8
  replace hB := Nat.le_trans hB ht8.ex.size
  replace hA := ht8.new
  refine V_y (Y_assign rfl) rfl rfl rfl ?_
  refine V_to (fun _ _ => rfl) ?_
  refine C_seq ?_
  refine C_region ?_
  have h9 := El_cal_Zone_0 h6
  refine V_y (Y_fieldAddr Try.underlying24 rfl Try.sizeOf3 (by decide) rfl) rfl rfl rfl ?_
  refine V_y (Y_load (El.int h9) Try.isAgg3 rfl) rfl rfl rfl ?_
  refine V_y (Y_build Try.underlying139 Try.zeroValue139 (Try_places139 _ Try.underlying139) rfl (by with_unfolding_all rfl)) rfl rfl rfl ?_
  refine V_buildOwnH (l := ([(⟨0, 3000001, z.offset⟩ : cal_part)] : List cal_part)) (len := 1) hH Try.underlying136 Try.sizeOf139 Try.zeroValue139 rfl (by with_unfolding_all rfl) (by decide) (by decide) hB hA ⟨[.int .i64 0, .int .i64 3000001, .int .i64 z.offset], _, rfl, ⟨[.int .i64 0], _, rfl, rfl, ⟨[.int .i64 3000001], _, rfl, rfl, rfl⟩⟩, rfl⟩ rfl rfl ?_
  intro v10 w11 A14 hH16 ht15
  replace h6 := El.tr h6 ht15
  replace h9 := El.tr h9 ht15
  replace hK := Tr.trans hK ht15
  replace hB := Nat.le_trans hB ht15.ex.size
  replace hA := ht15.new
  replace hH : Hp w.heap.size A14 w11 (obS (α := cal_part) 139 v10 ([(⟨0, 3000001, z.offset⟩ : cal_part)] : List cal_part) :: []) := hH16
  refine V_y (Y_assign rfl) rfl rfl rfl ?_
  refine V_to (fun _ _ => rfl) ?_
  refine C_seq ?_
  refine C_seq ?_
  refine C_region ?_
  have h17 := El_cal_Zone_1 h6
  refine V_y (Y_fieldAddr Try.underlying24 rfl Try.sizeOf22 (by decide) rfl) rfl rfl rfl ?_
  obtain ⟨v18, h19, h20⟩ := El.list h17
  refine V_y (Y_load h19 Try.isAgg22 rfl) rfl rfl rfl ?_
  refine V_y (Y_lenSl h20 rfl Try.underlying22 rfl) rfl rfl rfl ?_
  refine V_y (Y_move rfl) rfl rfl rfl ?_
  refine V_to (fun _ _ => rfl) ?_
  have hn45 := Sl.le h20
  obtain ⟨o21, ho21, hm⟩ := Option.bind_eq_some_iff.1 hm
  refine C_cutG (ι := ((List cal_part) × Value × (Nat → Prop))) (fun ⟨s22, v28, A30⟩ => [(3, v28)]) (fun ⟨s22, v28, A30⟩ => fun w' => o21 = .fin s22 ∧ Hp w.heap.size A30 w' (obS (α := cal_part) 139 v28 s22 :: []) ∧ Tr w.heap.size A14 w11 A30 w') ?_ ?_
  · refine C_block ?_
    refine C_range ho21 (fun k24 s32 a w' => ∃ i : (Value × (Nat → Prop)), Has ⟨35, [], none⟩ a ([(3, i.1), (11, v18), (12, .int .i64 (z.changes.length : Int)), (13, .int .i64 (k24 : Int))]) ∧ Hp w.heap.size i.2 w' (obS (α := cal_part) 139 i.1 s32 :: []) ∧ Tr w.heap.size A14 w11 i.2 w') (fun a ha => ⟨(v10, A14), ha.sub ⟨rfl, rfl, rfl, rfl, trivial⟩, ⟨hH, Tr.refl hA⟩⟩) ?_
    rintro K k24 s32 a w33 ⟨⟨v34, A36⟩, ha86, hH37, hr23⟩ hle41 K44 h43
    refine C_of ?_ ha86
    replace h20 := Sl.tr h20 hr23
    replace hK := Tr.trans hK hr23
    replace hB := Nat.le_trans hB hr23.ex.size
    replace hA := hr23.new
    replace hH : Hp w.heap.size A36 w33 (obS (α := cal_part) 139 v34 s32 :: []) := hH37
    refine C_seq (C_region (V_y (Y_lss rfl rfl) rfl rfl rfl (V_to (fun _ _ => rfl) ?_)))
    refine C_seq ?_
    refine C_cond rfl (fun hc46 => ?_) (fun hc46 => ?_)
    · have hlt42 := lt_of_dec hc46
      obtain ⟨x38, h39, h40⟩ := K44 hlt42
      refine C_skip_to (fun _ _ => rfl) ?_
      refine C_seq ?_
      refine C_block ?_
      refine C_seq ?_
      refine C_region ?_
      obtain ⟨x47, hx47, h39⟩ := Option.bind_eq_some_iff.1 h39
      refine V_indexAddr h20 hx47 Try.underlying22 Try.sizeOf116 rfl rfl rfl ?_
      intro b48 o49 h50
      obtain ⟨h51, _⟩ := El_cal_Change h50
      refine V_y (Y_loadA h51 Try.isAgg116 Try.sizeOf116 rfl) rfl rfl rfl ?_
      refine V_alloc Try.zeroValue116 rfl ?_
      intro b52 w53 h54
      refine V_storeNew h54 Try.sizeOf116 rfl rfl rfl rfl (by exact (List.forall_mem_cons.2 ⟨rfl, (List.forall_mem_cons.2 ⟨rfl, (fun _ h => nomatch h)⟩)⟩)) ?_
      intro w55 h56
      have hk58 := h56.kp
      have h57 : El (α := cal_Change) A36 w55 b52 0 x47 := h56.el hA ⟨[.int .i64 x47.at_], _, rfl, rfl, rfl⟩
      have ht59 := Kp.tr hk58 hA hB
      replace hH := Hp.kp hH hk58
      replace h20 := Sl.tr h20 ht59
      replace h50 := El.tr h50 ht59
      replace hK := Tr.trans hK ht59
      replace hr23 := Tr.trans hr23 ht59
      replace hB := Nat.le_trans hB ht59.ex.size
      replace hA := ht59.new
      refine V_to (fun _ _ => rfl) ?_
      refine C_seq ?_
      refine C_region ?_
      refine V_y (Y_move rfl) rfl rfl rfl ?_
      refine V_y (Y_move rfl) rfl rfl rfl ?_
      refine V_y (Y_lenSl (Hp.any (α := cal_part) (e := 139) (v := v34) (l := s32) hH (i := 0) rfl) rfl Try.underlying136 rfl) rfl rfl rfl ?_
      refine V_y (Y_subI rfl rfl) rfl rfl rfl ?_
      have h60 := El_cal_Change_0 h57
      refine V_y (Y_fieldAddr Try.underlying116 rfl Try.sizeOf3 (by decide) rfl) rfl rfl rfl ?_
      refine V_y (Y_load (El.int h60) Try.isAgg3 rfl) rfl rfl rfl ?_
      obtain ⟨x61, hx61, h39⟩ := Option.bind_eq_some_iff.1 h39
      refine V_indexAddrH (α := cal_part) (e := 139) (v := v34) (l := s32) hH (i := 0) rfl hx61 Try.underlying136 Try.sizeOf139 rfl rfl rfl ?_
      intro b62 o63 h64 hl65
      have h66 := El_cal_part_1 h64
      refine V_y (Y_fieldAddr Try.underlying139 rfl Try.sizeOf3 (by decide) rfl) rfl rfl rfl ?_
      obtain ⟨x67, hx67, h39⟩ := Option.bind_eq_some_iff.1 h39
      refine V_storeFH (α := cal_part) (e := 139) (v := v34) (l := s32) (foff := 1) hH (i := 0) rfl hl65 hx61 hx67 (fun _ h => by obtain ⟨_, _, rfl, rfl, ⟨_, _, rfl, rfl, rfl⟩⟩ := h; exact ⟨[_], _, rfl, rfl, ⟨[_], _, rfl, rfl, rfl⟩⟩) Try.sizeOf3 rfl (by simp [Value.cells, Value.oneCell']) (by decide) hB hA (congrArg (fun z => some (Value.pointer (some ⟨_, z, none⟩))) (by simp [Nat.add_assoc])) rfl ?_
      intro w68 hH69 ht70
      replace h20 := Sl.tr h20 ht70
      replace h57 := El.tr h57 ht70
      replace h60 := El.tr h60 ht70
      replace hK := Tr.trans hK ht70
      replace hr23 := Tr.trans hr23 ht70
      replace hB := Nat.le_trans hB ht70.ex.size
      replace hA := ht70.new
      replace hH : Hp w.heap.size A36 w68 (obS (α := cal_part) 139 v34 x67 :: []) := hH69
      refine V_to (fun _ _ => rfl) ?_
      refine C_region ?_
      refine V_y (Y_move rfl) rfl rfl rfl ?_
      have h71 := El_cal_Change_0 h57
      refine V_y (Y_fieldAddr Try.underlying116 rfl Try.sizeOf3 (by decide) rfl) rfl rfl rfl ?_
      refine V_y (Y_load (El.int h71) Try.isAgg3 rfl) rfl rfl rfl ?_
      have h72 := El_cal_Change_1 h57
      refine V_y (Y_fieldAddr Try.underlying116 rfl Try.sizeOf3 (by decide) rfl) rfl rfl rfl ?_
      refine V_y (Y_load (El.int h72) Try.isAgg3 rfl) rfl rfl rfl ?_
      refine V_y (Y_build Try.underlying139 Try.zeroValue139 (Try_places139 _ Try.underlying139) rfl (by with_unfolding_all rfl)) rfl rfl rfl ?_
      refine V_buildSlice (l := ([(⟨x47.at_, 3000001, x47.offset⟩ : cal_part)] : List cal_part)) (len := 1) Try.underlying136 Try.sizeOf139 Try.zeroValue139 rfl (by with_unfolding_all rfl) (by decide) (by decide) hA ⟨[.int .i64 x47.at_, .int .i64 3000001, .int .i64 x47.offset], _, rfl, ⟨[.int .i64 x47.at_], _, rfl, rfl, ⟨[.int .i64 3000001], _, rfl, rfl, rfl⟩⟩, rfl⟩ rfl rfl ?_
      intro v73 w74 hk76 h75
      have ht77 := Kp.tr hk76 hA hB
      replace hH := Hp.kp hH hk76
      replace h20 := Sl.tr h20 ht77
      replace h57 := El.tr h57 ht77
      replace h71 := El.tr h71 ht77
      replace h72 := El.tr h72 ht77
      replace hK := Tr.trans hK ht77
      replace hr23 := Tr.trans hr23 ht77
      replace hB := Nat.le_trans hB ht77.ex.size
      replace hA := ht77.new
      obtain ⟨x78, hx78, h39⟩ := Option.bind_eq_some_iff.1 h39
      refine V_appendH (e := 139) (v := v34) (l := x67) (ti := Try.t139) (bytes := 24) (lim := 5864062014805) hH (i := 0) rfl h75 hx78 Try.underlying136 Try_info139 rfl rfl rfl rfl (by decide) (by decide) (by decide) hB hA rfl rfl rfl ?_
      intro v79 w80 A81 hH82 ht83
      replace h20 := Sl.tr h20 ht83
      replace h57 := El.tr h57 ht83
      replace h71 := El.tr h71 ht83
      replace h72 := El.tr h72 ht83
      replace h75 := Sl.tr h75 ht83
      replace hK := Tr.trans hK ht83
      replace hr23 := Tr.trans hr23 ht83
      replace hB := Nat.le_trans hB ht83.ex.size
      replace hA := ht83.new
      replace hH : Hp w.heap.size A81 w80 (obS (α := cal_part) 139 v79 x78 :: []) := hH82
      refine V_y (Y_assign rfl) rfl rfl rfl ?_
      refine V_to (fun _ _ => rfl) ?_
      refine C_region ?_
      refine V_y (Y_addI rfl rfl) rfl rfl rfl ?_
      refine V_y (Y_move rfl) rfl rfl rfl ?_
      obtain rfl := Option.some.inj h39
      refine V_end (fun a ha84 => ?_)
      exact ⟨x78, hlt42, h40, ⟨(v79, A81), ha84.sub ⟨rfl, rfl, rfl, (congrArg (fun z => some (Value.int .i64 z)) (w64_succ hlt42 hn45)), trivial⟩, ⟨hH, hr23⟩⟩⟩
    · refine C_exit (fun a ha85 => ?_)
      exact ⟨(s32, v34, A36), ha85.sub ⟨rfl, trivial⟩, ⟨(h43 (eq_of_dec hle41 hc46)).symm, hH, hr23⟩⟩
  rintro ⟨s22, v28, A30⟩ w25 ⟨rfl, hH31, hk26⟩ a ha27
  rw [Lp.andThen_fin] at hm
  replace hK := Tr.trans hK hk26
  replace hB := Nat.le_trans hB hk26.ex.size
  replace hA := hk26.new
  replace hH : Hp w.heap.size A30 w25 (obS (α := cal_part) 139 v28 s22 :: []) := hH31
  refine C_at (n := ⟨35, [], none⟩) (fun _ _ => rfl) ?_ ha27
  refine C_seq ?_
  refine C_region ?_
  refine V_y (Y_move rfl) rfl rfl rfl ?_
  refine V_y (Y_assign rfl) rfl rfl rfl ?_
  refine V_to (fun _ _ => rfl) ?_
  obtain rfl := Option.some.inj hm
  refine C_ret ?_
  try simp only [↓inBlock_ret, ↓then_ret]
  exact retQ rfl (Res.one Try.results106 rfl) ⟨v28, rfl, (Hp.ownd hH (i := 0) rfl), hK.kp⟩

set_option maxRecDepth 4000 in
set_option maxHeartbeats 4000000 in
theorem cal_floor_c (w : World) (a_ : Int) (b : Int) {r : Int} (hm : cal_floor a_ b = some r) : Ret Try.prog 109 #[.int .i64 a_, .int .i64 b] w fun v w' => v = .int .i64 r ∧ w = w' := by
  unfold cal_floor at hm
  refine enter Try.func109 rfl Try.ntmps109 rfl ?_
  refine C_seq ?_
  refine C_region ?_
  refine V_y (Y_assign rfl) rfl rfl rfl ?_
  refine V_to (fun _ _ => rfl) ?_
  refine C_seq ?_
  refine C_region ?_
  refine V_y (Y_move rfl) rfl rfl rfl ?_
  refine V_y (Y_move rfl) rfl rfl rfl ?_
  obtain ⟨x1, hx1, hm⟩ := Option.bind_eq_some_iff.1 hm
  refine V_y (Y_quo hx1 rfl rfl) rfl rfl rfl ?_
  refine V_y (Y_assign rfl) rfl rfl rfl ?_
  refine V_to (fun _ _ => rfl) ?_
  refine C_seq ?_
  refine C_seq ?_
  refine C_region ?_
  refine V_y (Y_move rfl) rfl rfl rfl ?_
  refine V_y (Y_move rfl) rfl rfl rfl ?_
  obtain ⟨x2, hx2, hm⟩ := Option.bind_eq_some_iff.1 hm
  refine V_y (Y_rem hx2 rfl rfl) rfl rfl rfl ?_
  refine V_y (Y_lss rfl rfl) rfl rfl rfl ?_
  refine V_to (fun _ _ => rfl) ?_
  obtain ⟨s4, ho3, hm⟩ := Option.bind_eq_some_iff.1 hm
  refine C_cutG (ι := Unit) (fun (_ : Unit) => [(5, .int .i64 s4)]) (fun (_ : Unit) => fun w' => w = w') ?_ ?_
  · refine C_cond rfl (fun hc9 => ?_) (fun hc9 => ?_)
    · rw [if_pos hc9] at ho3
      refine C_region ?_
      refine V_y (Y_move rfl) rfl rfl rfl ?_
      refine V_y (Y_subI rfl rfl) rfl rfl rfl ?_
      refine V_y (Y_assign rfl) rfl rfl rfl ?_
      obtain rfl := Option.some.inj ho3
      refine V_end (fun a ha10 => ?_)
      exact ⟨(), ha10.sub ⟨rfl, trivial⟩, rfl⟩
    · rw [if_neg (nt hc9)] at ho3
      obtain rfl := Option.some.inj ho3
      refine C_skip (fun a ha11 => ?_)
      exact ⟨(), ha11.sub ⟨rfl, trivial⟩, rfl⟩
  rintro _ _ rfl a ha8
  refine C_at (n := ⟨16, [], none⟩) (fun _ _ => rfl) ?_ ha8
  refine C_seq ?_
  refine C_region ?_
  refine V_y (Y_move rfl) rfl rfl rfl ?_
  refine V_y (Y_assign rfl) rfl rfl rfl ?_
  refine V_to (fun _ _ => rfl) ?_
  obtain rfl := Option.some.inj hm
  refine C_ret ?_
  try simp only [↓inBlock_ret, ↓then_ret]
  exact retQ rfl (Res.one Try.results109 rfl) ⟨rfl, rfl⟩

set_option maxRecDepth 4000 in
set_option maxHeartbeats 4000000 in
theorem slices_BinarySearchFunc_Lcal_Special_cal_Special_int_c (w : World) {A : Nat → Prop} (hA : ∀ b, w.heap.size ≤ b → A b) (x : (List cal_Special)) (v_x : Value) (h_x : Sl A w v_x x) (target : Int) (cmp : cal_Special → Int → Option Int) (cmp_f : FuncId) (cmp_a cmp_c : Array Value) (cmp_call : ∀ (args : Array Value) (w : World), (callFunc cmp_f args).run Try.prog w = .ok (.enter cmp_f args) w) (cmp_spec : ∀ (w1 : World) (A1 : Nat → Prop), Tr w.heap.size A w A1 w1 → (∀ b, w1.heap.size ≤ b → A1 b) → ∀ (y0 : cal_Special) (v1 : Value) (h2 : Sl A1 w1 v1 y0.shifts) (y1 : Int) (r : Int), cmp y0 y1 = some r → Ret Try.prog cmp_f (cmp_a ++ #[.agg #[.int .i64 y0.day, v1], .int .i64 y1] ++ cmp_c) w1 fun v w' => v = .int .i64 r ∧ Kp w1 w') {r : (Int × Bool)} (hm : slices_BinarySearchFunc_Lcal_Special_cal_Special_int x target cmp = some r) : Ret Try.prog 116 #[v_x, .int .i64 target, .func (.func cmp_f) cmp_a cmp_c] w fun v w' => v = .tuple #[.int .i64 r.1, .bool r.2] ∧ Kp w w' := by
  unfold slices_BinarySearchFunc_Lcal_Special_cal_Special_int at hm
  refine enter Try.func116 rfl Try.ntmps116 rfl ?_
  have hA0 := hA
  have hB := Nat.le_refl w.heap.size
  have hK : Tr w.heap.size A w A w := Tr.refl hA
  have hH : Hp w.heap.size A w [] := Hp.nil
  refine C_seq ?_
  refine C_region ?_
  refine V_y (Y_assign rfl) rfl rfl rfl ?_
  refine V_y (Y_assign rfl) rfl rfl rfl ?_
  refine V_to (fun _ _ => rfl) ?_
  refine C_seq ?_
  refine C_region ?_
  refine V_y (Y_move rfl) rfl rfl rfl ?_
  refine V_y (Y_lenSl h_x rfl Try.underlying26 rfl) rfl rfl rfl ?_
  refine V_y (Y_assign rfl) rfl rfl rfl ?_
  refine V_to (fun _ _ => rfl) ?_
  refine C_seq ?_
  refine C_region ?_
  refine V_y (Y_move rfl) rfl rfl rfl ?_
  refine V_y (Y_assign rfl) rfl rfl rfl ?_
  refine V_y (Y_assign rfl) rfl rfl rfl ?_
  refine V_to (fun _ _ => rfl) ?_
  refine C_seq ?_
  obtain ⟨o3, ho3, hm⟩ := Option.bind_eq_some_iff.1 hm
  refine C_cutG (ι := ((Int × Int) × (Nat → Prop))) (fun ⟨s4, A10⟩ => [(0, v_x), (1, .int .i64 target), (2, .func (.func cmp_f) cmp_a cmp_c), (8, .int .i64 (x.length : Int)), (9, .int .i64 s4.1)]) (fun ⟨s4, A10⟩ => fun w' => o3 = .fin s4 ∧ Hp w.heap.size A10 w' ([]) ∧ Tr w.heap.size A w A10 w') ?_ ?_
  · refine C_block ?_
    refine C_while ho3 (fun s12 a w' => ∃ i : (Nat → Prop), Has ⟨49, [], none⟩ a ([(0, v_x), (1, .int .i64 target), (2, .func (.func cmp_f) cmp_a cmp_c), (8, .int .i64 (x.length : Int)), (9, .int .i64 s12.1), (10, .int .i64 s12.2)]) ∧ Hp w.heap.size i w' ([]) ∧ Tr w.heap.size A w i w') (fun a ha => ⟨A, ha.sub ⟨rfl, rfl, rfl, rfl, rfl, rfl, trivial⟩, ⟨hH, Tr.refl hA⟩⟩) ?_
    rintro K s12 a w13 ⟨A14, ha56, hH15, hr5⟩ K22
    refine C_of ?_ ha56
    replace h_x := Sl.tr h_x hr5
    replace hK := Tr.trans hK hr5
    replace hB := Nat.le_trans hB hr5.ex.size
    replace hA := hr5.new
    replace hH : Hp w.heap.size A14 w13 ([]) := hH15
    obtain ⟨x16, h17, h18⟩ := K22
    refine C_seq ?_
    refine C_seq ?_
    refine C_region ?_
    refine V_y (Y_move rfl) rfl rfl rfl ?_
    refine V_y (Y_move rfl) rfl rfl rfl ?_
    refine V_y (Y_lss rfl rfl) rfl rfl rfl ?_
    refine V_to (fun _ _ => rfl) ?_
    refine C_cond rfl (fun hc23 => ?_) (fun hc23 => ?_)
    · rw [if_pos hc23] at h17
      refine C_skip_to (fun _ _ => rfl) ?_
      obtain ⟨s25, ho24, h17⟩ := Option.bind_eq_some_iff.1 h17
      refine C_cutG (ι := (Nat → Prop)) (fun (A30 : (Nat → Prop)) => [(0, v_x), (1, .int .i64 target), (2, .func (.func cmp_f) cmp_a cmp_c), (8, .int .i64 (x.length : Int)), (9, .int .i64 s25.1), (10, .int .i64 s25.2)]) (fun (A30 : (Nat → Prop)) => fun w' => Hp w.heap.size A30 w' ([]) ∧ Tr w.heap.size A14 w13 A30 w') ?_ ?_
      · have hr26 : Tr w.heap.size A14 w13 A14 w13 := Tr.refl hA
        refine C_block ?_
        refine C_seq ?_
        refine C_region ?_
        refine V_y (Y_move rfl) rfl rfl rfl ?_
        refine V_y (Y_move rfl) rfl rfl rfl ?_
        refine V_y (Y_addI rfl rfl) rfl rfl rfl ?_
        refine V_y (Y_convI Try.underlying3 Try.underlying113 rfl) rfl rfl rfl ?_
        obtain ⟨x32, hx32, ho24⟩ := Option.bind_eq_some_iff.1 ho24
        refine V_y (Y_shr hx32 rfl rfl) rfl rfl rfl ?_
        refine V_y (Y_convI Try.underlying113 Try.underlying3 rfl) rfl rfl rfl ?_
        refine V_y (Y_assign rfl) rfl rfl rfl ?_
        refine V_to (fun _ _ => rfl) ?_
        refine C_seq ?_
        refine C_region ?_
        refine V_y (Y_move rfl) rfl rfl rfl ?_
        refine V_y (Y_move rfl) rfl rfl rfl ?_
        refine V_y (Y_move rfl) rfl rfl rfl ?_
        obtain ⟨x33, hx33, ho24⟩ := Option.bind_eq_some_iff.1 ho24
        refine V_indexAddr h_x hx33 Try.underlying26 Try.sizeOf92 rfl rfl rfl ?_
        intro b34 o35 h36
        obtain ⟨v37, h39, h38⟩ := El_cal_Special h36
        refine V_y (Y_loadA h39 Try.isAgg92 Try.sizeOf92 rfl) rfl rfl rfl ?_
        refine V_y (Y_move rfl) rfl rfl rfl ?_
        obtain ⟨x40, hx40, ho24⟩ := Option.bind_eq_some_iff.1 ho24
        refine V_call cmp_call rfl rfl rfl rfl (cmp_spec w13 _ hK hA x33 v37 h38 target _ hx40) ?_
        rintro _ w41 ⟨rfl, hk42⟩
        have ht43 := Kp.tr hk42 hA hB
        replace hH := Hp.kp hH hk42
        replace h_x := Sl.tr h_x ht43
        replace h36 := El.tr h36 ht43
        replace h38 := Sl.tr h38 ht43
        replace hK := Tr.trans hK ht43
        replace hr5 := Tr.trans hr5 ht43
        replace hr26 := Tr.trans hr26 ht43
        replace hB := Nat.le_trans hB ht43.ex.size
        replace hA := ht43.new
        refine V_y (Y_lss rfl rfl) rfl rfl rfl ?_
        refine V_to (fun _ _ => rfl) ?_
        obtain ⟨s45, ho44, ho24⟩ := Option.bind_eq_some_iff.1 ho24
        refine C_cutG (ι := Unit) (fun (_ : Unit) => [(0, v_x), (1, .int .i64 target), (2, .func (.func cmp_f) cmp_a cmp_c), (8, .int .i64 (x.length : Int)), (9, .int .i64 s45.1), (10, .int .i64 s45.2)]) (fun (_ : Unit) => fun w' => w41 = w') ?_ ?_
        · refine C_cond rfl (fun hc50 => ?_) (fun hc50 => ?_)
          · rw [if_pos hc50] at ho44
            refine C_region ?_
            refine V_y (Y_move rfl) rfl rfl rfl ?_
            refine V_y (Y_addI rfl rfl) rfl rfl rfl ?_
            refine V_y (Y_assign rfl) rfl rfl rfl ?_
            obtain rfl := Option.some.inj ho44
            refine V_end (fun a ha51 => ?_)
            exact ⟨(), ha51.sub ⟨rfl, rfl, rfl, rfl, rfl, rfl, trivial⟩, rfl⟩
          · rw [if_neg (nt hc50)] at ho44
            refine C_region ?_
            refine V_y (Y_move rfl) rfl rfl rfl ?_
            refine V_y (Y_assign rfl) rfl rfl rfl ?_
            obtain rfl := Option.some.inj ho44
            refine V_end (fun a ha52 => ?_)
            exact ⟨(), ha52.sub ⟨rfl, rfl, rfl, rfl, rfl, rfl, trivial⟩, rfl⟩
        rintro _ _ rfl a ha49
        obtain rfl := Option.some.inj ho24
        exact ⟨A14, ha49.sub ⟨rfl, rfl, rfl, rfl, rfl, rfl, trivial⟩, ⟨hH, hr26⟩⟩
      rintro A30 w27 ⟨hH31, hk28⟩ a ha29
      replace h_x := Sl.tr h_x hk28
      replace hK := Tr.trans hK hk28
      replace hr5 := Tr.trans hr5 hk28
      replace hB := Nat.le_trans hB hk28.ex.size
      replace hA := hk28.new
      replace hH : Hp w.heap.size A30 w27 ([]) := hH31
      obtain rfl := Option.some.inj h17
      exact ⟨(s25.1, s25.2), h18, ⟨A30, ha29.sub ⟨rfl, rfl, rfl, rfl, rfl, rfl, trivial⟩, ⟨hH, hr5⟩⟩⟩
    · rw [if_neg (nt hc23)] at h17
      obtain rfl := Option.some.inj h17
      refine C_exit (fun a ha55 => ?_)
      exact ⟨((s12.1, s12.2), A14), ha55.sub ⟨rfl, rfl, rfl, rfl, rfl, trivial⟩, ⟨h18.symm, hH, hr5⟩⟩
  rintro ⟨s4, A10⟩ w7 ⟨rfl, hH11, hk8⟩ a ha9
  rw [Lp.andThen_fin] at hm
  replace h_x := Sl.tr h_x hk8
  replace hK := Tr.trans hK hk8
  replace hB := Nat.le_trans hB hk8.ex.size
  replace hA := hk8.new
  replace hH : Hp w.heap.size A10 w7 ([]) := hH11
  refine C_at (n := ⟨49, [], none⟩) (fun _ _ => rfl) ?_ ha9
  refine C_seq ?_
  obtain ⟨s58, ho57, hm⟩ := Option.bind_eq_some_iff.1 hm
  refine C_cutG (ι := (Nat → Prop)) (fun (A63 : (Nat → Prop)) => [(6, .int .i64 s58.1), (7, .bool s58.2)]) (fun (A63 : (Nat → Prop)) => fun w' => Hp w.heap.size A63 w' ([]) ∧ Tr w.heap.size A10 w7 A63 w') ?_ ?_
  · have hr59 : Tr w.heap.size A10 w7 A10 w7 := Tr.refl hA
    refine C_region ?_
    refine V_y (Y_move rfl) rfl rfl rfl ?_
    refine V_y (Y_move rfl) rfl rfl rfl ?_
    refine V_y (Y_move rfl) rfl rfl rfl ?_
    refine V_y (Y_lss rfl rfl) rfl rfl rfl ?_
    refine V_y (Y_move rfl) rfl rfl rfl ?_
    rcases Bool.eq_false_or_eq_true (decide (s4.1 < (x.length : Int))) with hc65 | hc65
    · rw [if_pos hc65] at ho57
      refine V_ge rfl rfl rfl hc65 ?_
      refine V_y (Y_move rfl) rfl rfl rfl ?_
      refine V_ge rfl rfl rfl hc65 ?_
      refine V_y (Y_move rfl) rfl rfl rfl ?_
      refine V_ge rfl rfl rfl hc65 ?_
      refine V_y (Y_move rfl) rfl rfl rfl ?_
      refine V_ge rfl rfl rfl hc65 ?_
      obtain ⟨x66, hx66, ho57⟩ := Option.bind_eq_some_iff.1 ho57
      refine V_indexAddr h_x hx66 Try.underlying26 Try.sizeOf92 rfl rfl rfl ?_
      intro b67 o68 h69
      refine V_ge rfl rfl rfl hc65 ?_
      obtain ⟨v70, h72, h71⟩ := El_cal_Special h69
      refine V_y (Y_loadA h72 Try.isAgg92 Try.sizeOf92 rfl) rfl rfl rfl ?_
      refine V_ge rfl rfl rfl hc65 ?_
      refine V_y (Y_move rfl) rfl rfl rfl ?_
      refine V_ge rfl rfl rfl hc65 ?_
      obtain ⟨x73, hx73, ho57⟩ := Option.bind_eq_some_iff.1 ho57
      refine V_call cmp_call rfl rfl rfl rfl (cmp_spec w7 _ hK hA x66 v70 h71 target _ hx73) ?_
      rintro _ w74 ⟨rfl, hk75⟩
      have ht76 := Kp.tr hk75 hA hB
      replace hH := Hp.kp hH hk75
      replace h_x := Sl.tr h_x ht76
      replace h69 := El.tr h69 ht76
      replace h71 := Sl.tr h71 ht76
      replace hK := Tr.trans hK ht76
      replace hr59 := Tr.trans hr59 ht76
      replace hB := Nat.le_trans hB ht76.ex.size
      replace hA := ht76.new
      refine V_ge rfl rfl rfl hc65 ?_
      refine V_y (Y_eql rfl rfl) rfl rfl rfl ?_
      refine V_y (Y_pick_te rfl hc65 rfl) rfl rfl rfl ?_
      refine V_y (Y_assign rfl) rfl rfl rfl ?_
      refine V_y (Y_assign rfl) rfl rfl rfl ?_
      obtain rfl := Option.some.inj ho57
      refine V_end (fun a ha77 => ?_)
      exact ⟨A10, ha77.sub ⟨rfl, rfl, trivial⟩, ⟨hH, hr59⟩⟩
    · rw [if_neg (nt hc65)] at ho57
      refine V_gn rfl rfl rfl hc65 rfl rfl rfl ?_
      refine V_gn rfl rfl rfl hc65 rfl rfl rfl ?_
      refine V_gn rfl rfl rfl hc65 rfl rfl rfl ?_
      refine V_gn rfl rfl rfl hc65 rfl rfl rfl ?_
      refine V_gn rfl rfl rfl hc65 rfl rfl rfl ?_
      refine V_gn rfl rfl rfl hc65 rfl rfl rfl ?_
      refine V_gn rfl rfl rfl hc65 rfl rfl rfl ?_
      refine V_gn rfl rfl rfl hc65 rfl rfl rfl ?_
      refine V_y (Y_pick_fe rfl hc65 rfl) rfl rfl rfl ?_
      refine V_y (Y_assign rfl) rfl rfl rfl ?_
      refine V_y (Y_assign rfl) rfl rfl rfl ?_
      obtain rfl := Option.some.inj ho57
      refine V_end (fun a ha78 => ?_)
      exact ⟨A10, ha78.sub ⟨rfl, rfl, trivial⟩, ⟨hH, hr59⟩⟩
  rintro A63 w60 ⟨hH64, hk61⟩ a ha62
  replace hK := Tr.trans hK hk61
  replace hB := Nat.le_trans hB hk61.ex.size
  replace hA := hk61.new
  replace hH : Hp w.heap.size A63 w60 ([]) := hH64
  refine C_at (n := ⟨49, [], none⟩) (fun _ _ => rfl) ?_ ha62
  obtain rfl := Option.some.inj hm
  refine C_ret ?_
  try simp only [↓inBlock_ret, ↓then_ret]
  exact retQ rfl (Res.two Try.results116 rfl rfl) ⟨rfl, hK.kp⟩

set_option maxRecDepth 4000 in
set_option maxHeartbeats 4000000 in
theorem cal_Calendar_shiftsOf_1_c (w : World) {A : Nat → Prop} (hA : ∀ b, w.heap.size ≤ b → A b) (s : cal_Special) (v_s : Value) (h_s : Sl A w v_s s.shifts) (d : Int) {r : Int} (hm : cal_Calendar_shiftsOf_1 s d = some r) : Ret Try.prog 117 #[.agg #[.int .i64 s.day, v_s], .int .i64 d] w fun v w' => v = .int .i64 r ∧ Kp w w' := by
  unfold cal_Calendar_shiftsOf_1 at hm
  refine enter Try.func117 rfl Try.ntmps117 rfl ?_
  have hA0 := hA
  have hB := Nat.le_refl w.heap.size
  have hK : Tr w.heap.size A w A w := Tr.refl hA
  have hH : Hp w.heap.size A w [] := Hp.nil
  refine C_seq ?_
  refine C_region ?_
  refine V_box rfl rfl ?_
  intro b3 w4 h5
  have hk7 := h5.kp
  have h6 : El (α := cal_Special) A w4 b3 0 s := h5.el hA ⟨[.int .i64 s.day], _, rfl, rfl, ⟨_, rfl, h_s⟩⟩
  have ht8 := Kp.tr hk7 hA hB
  replace hH := Hp.kp hH hk7
  replace h_s := Sl.tr h_s ht8
  replace hK := Tr.trans hK ht8
  replace hB := Nat.le_trans hB ht8.ex.size
  replace hA := ht8.new
  refine V_y (Y_assign rfl) rfl rfl rfl ?_
  refine V_to (fun _ _ => rfl) ?_
  refine C_seq ?_
  refine C_region ?_
  have h9 := El_cal_Special_0 h6
  refine V_y (Y_fieldAddr Try.underlying92 rfl Try.sizeOf3 (by decide) rfl) rfl rfl rfl ?_
  refine V_y (Y_load (El.int h9) Try.isAgg3 rfl) rfl rfl rfl ?_
  refine V_y (Y_move rfl) rfl rfl rfl ?_
  refine V_call Try.call54 rfl rfl rfl rfl (cmp_Compare_int_c w4 s.day d) ?_
  rintro _ _ ⟨rfl, rfl⟩
  refine V_y (Y_assign rfl) rfl rfl rfl ?_
  refine V_to (fun _ _ => rfl) ?_
  obtain rfl := Option.some.inj hm
  refine C_ret ?_
  try simp only [↓inBlock_ret, ↓then_ret]
  exact retQ rfl (Res.one Try.results117 rfl) ⟨rfl, hK.kp⟩

set_option maxRecDepth 4000 in
set_option maxHeartbeats 4000000 in
theorem slices_Clone_Lcal_Shift_cal_Shift_c (w : World) {A : Nat → Prop} (hA : ∀ b, w.heap.size ≤ b → A b) (s : (List cal_Shift)) (v_s : Value) (h_s : Sl A w v_s s) {r : (List cal_Shift)} (hm : slices_Clone_Lcal_Shift_cal_Shift s = some r) : Ret Try.prog 118 #[v_s] w fun v w' => ∃ s0, v = s0 ∧ Ownd 110 w w' s0 r ∧ Kp w w' := by
  unfold slices_Clone_Lcal_Shift_cal_Shift at hm
  refine enter Try.func118 rfl Try.ntmps118 rfl ?_
  have hA0 := hA
  have hB := Nat.le_refl w.heap.size
  have hK : Tr w.heap.size A w A w := Tr.refl hA
  have hH : Hp w.heap.size A w [] := Hp.nil
  rcases Sl.split h_s with ⟨rfl, rfl⟩ | ⟨a0, n0, c0, rfl⟩
  · replace hm : some ([] : (List cal_Shift)) = some r := by simpa [appendL] using hm
    refine C_seq ?_
    refine C_region ?_
    refine V_y (Y_assign rfl) rfl rfl rfl ?_
    refine V_to (fun _ _ => rfl) ?_
    refine C_seq ?_
    refine C_seq ?_
    refine C_region ?_
    refine V_y (Y_move rfl) rfl rfl rfl ?_
    refine V_y (Y_eqlNilT rfl rfl Try.underlying25) rfl rfl rfl ?_
    refine V_to (fun _ _ => rfl) ?_
    refine C_cond rfl (fun hc => ?_) (fun hc => ?_)
    · refine C_seq ?_
      refine C_region ?_
      refine V_y (Y_assign rfl) rfl rfl rfl ?_
      refine V_to (fun _ _ => rfl) ?_
      obtain rfl := Option.some.inj hm
      replace hH : Hp w.heap.size A w (obS (α := cal_Shift) 110 (.slice none 0 0) ([] : (List cal_Shift)) :: []) := Hp.addNil (α := cal_Shift) (e := 110) hH
      refine C_ret ?_
      try simp only [↓inBlock_ret, ↓then_ret]
      exact retQ rfl (Res.one Try.results118 rfl) ⟨.slice none 0 0, rfl, (Hp.ownd hH (i := 0) rfl), hK.kp⟩
    · exact absurd hc (by decide)
  · refine C_seq ?_
    refine C_region ?_
    refine V_y (Y_assign rfl) rfl rfl rfl ?_
    refine V_to (fun _ _ => rfl) ?_
    refine C_seq ?_
    refine C_seq ?_
    refine C_region ?_
    refine V_y (Y_move rfl) rfl rfl rfl ?_
    refine V_y (Y_eqlNilF rfl rfl Try.underlying25) rfl rfl rfl ?_
    refine V_to (fun _ _ => rfl) ?_
    refine C_cond rfl (fun hc => ?_) (fun hc => ?_)
    · exact absurd hc (by decide)
    · refine C_skip_to (fun _ _ => rfl) ?_
      refine C_seq ?_
      refine C_region ?_
      refine V_buildOwn0H (α := cal_Shift) hH Try.underlying25 Try.sizeOf110 hB hA rfl ?_
      intro v3 w4 A5 hH6 ht7
      replace h_s := Sl.tr h_s ht7
      replace hK := Tr.trans hK ht7
      replace hB := Nat.le_trans hB ht7.ex.size
      replace hA := ht7.new
      replace hH : Hp w.heap.size A5 w4 (obS (α := cal_Shift) 110 v3 ([] : List cal_Shift) :: []) := hH6
      refine V_y (Y_move rfl) rfl rfl rfl ?_
      obtain ⟨x8, hx8, hm⟩ := Option.bind_eq_some_iff.1 hm
      refine V_appendH (e := 110) (v := v3) (l := ([] : List cal_Shift)) (ti := Try.t110) (bytes := 24) (lim := 5864062014805) hH (i := 0) rfl h_s hx8 Try.underlying25 Try_info110 rfl rfl rfl rfl (by decide) (by decide) (by decide) hB hA rfl rfl rfl ?_
      intro v9 w10 A11 hH12 ht13
      replace h_s := Sl.tr h_s ht13
      replace hK := Tr.trans hK ht13
      replace hB := Nat.le_trans hB ht13.ex.size
      replace hA := ht13.new
      replace hH : Hp w.heap.size A11 w10 (obS (α := cal_Shift) 110 v9 x8 :: []) := hH12
      refine V_y (Y_assign rfl) rfl rfl rfl ?_
      refine V_to (fun _ _ => rfl) ?_
      obtain rfl := Option.some.inj hm
      refine C_ret ?_
      try simp only [↓inBlock_ret, ↓then_ret]
      exact retQ rfl (Res.one Try.results118 rfl) ⟨v9, rfl, (Hp.ownd hH (i := 0) rfl), hK.kp⟩

set_option maxRecDepth 4000 in
set_option maxHeartbeats 4000000 in
theorem cal_Calendar_shiftsOf_c (w : World) {A : Nat → Prop} (hA : ∀ b, w.heap.size ≤ b → A b) (c : cal_Calendar) (v_c0 : Value) (h_c0 : Sl A w v_c0 c.zone.changes) (v_c1 : Value) (h_c1 : Sl A w v_c1 c.week) (v_c2 : Value) (h_c2 : Sl A w v_c2 c.specials) (day : Int) {r : (List cal_Shift)} (hm : cal_Calendar_shiftsOf c day = some r) : Ret Try.prog 108 #[.agg #[.int .i64 c.zone.offset, v_c0, v_c1, v_c2], .int .i64 day] w fun v w' => ∃ s0, v = s0 ∧ Ownd 110 w w' s0 r ∧ Kp w w' := by
  unfold cal_Calendar_shiftsOf at hm
  refine enter Try.func108 rfl Try.ntmps108 rfl ?_
  have hA0 := hA
  have hB := Nat.le_refl w.heap.size
  have hK : Tr w.heap.size A w A w := Tr.refl hA
  have hH : Hp w.heap.size A w [] := Hp.nil
  refine C_seq ?_
  refine C_region ?_
  refine V_box rfl rfl ?_
  intro b7 w9 h10
  have hk12 := h10.kp
  have h11 : El (α := cal_Calendar) A w9 b7 0 c := h10.el hA ⟨[.int .i64 c.zone.offset, v_c0], _, rfl, ⟨[.int .i64 c.zone.offset], _, rfl, rfl, ⟨_, rfl, h_c0⟩⟩, ⟨[v_c1], _, rfl, ⟨_, rfl, h_c1⟩, ⟨_, rfl, h_c2⟩⟩⟩
  have ht13 := Kp.tr hk12 hA hB
  replace hH := Hp.kp hH hk12
  replace h_c0 := Sl.tr h_c0 ht13
  replace h_c1 := Sl.tr h_c1 ht13
  replace h_c2 := Sl.tr h_c2 ht13
  replace hK := Tr.trans hK ht13
  replace hB := Nat.le_trans hB ht13.ex.size
  replace hA := ht13.new
  refine V_y (Y_assign rfl) rfl rfl rfl ?_
  refine V_to (fun _ _ => rfl) ?_
  refine C_seq ?_
  refine C_region ?_
  have h14 := El_cal_Calendar_2 h11
  refine V_y (Y_fieldAddr Try.underlying28 rfl Try.sizeOf26 (by decide) rfl) rfl rfl rfl ?_
  obtain ⟨v15, h16, h17⟩ := El.list h14
  refine V_y (Y_load h16 Try.isAgg26 rfl) rfl rfl rfl ?_
  refine V_y (Y_move rfl) rfl rfl rfl ?_
  obtain ⟨x20, hx20, hm⟩ := Option.bind_eq_some_iff.1 hm
  refine V_call Try.call116 rfl rfl rfl rfl (slices_BinarySearchFunc_Lcal_Special_cal_Special_int_c w9 hA c.specials v15 h17 day (fun y31 y32 => cal_Calendar_shiftsOf_1 y31 y32) 117 #[] #[] Try.call117 (fun w27 A28 ht29 h30 y21 v22 h23 y24 r25 h26 => (cal_Calendar_shiftsOf_1_c w27 h30 y21 v22 h23 y24  h26).mono (fun _ _ h => ⟨h.1, h.2⟩)) hx20) ?_
  rintro _ w33 ⟨rfl, hk34⟩
  have ht35 := Kp.tr hk34 hA hB
  replace hH := Hp.kp hH hk34
  replace h11 := El.tr h11 ht35
  replace h14 := El.tr h14 ht35
  replace h17 := Sl.tr h17 ht35
  replace hK := Tr.trans hK ht35
  replace hB := Nat.le_trans hB ht35.ex.size
  replace hA := ht35.new
  refine V_y (Y_move rfl) rfl rfl rfl ?_
  refine V_y (Y_extract rfl rfl) rfl rfl rfl ?_
  refine V_y (Y_extract rfl rfl) rfl rfl rfl ?_
  refine V_y (Y_assign rfl) rfl rfl rfl ?_
  refine V_y (Y_assign rfl) rfl rfl rfl ?_
  refine V_to (fun _ _ => rfl) ?_
  refine C_seq ?_
  refine C_seq ?_
  refine C_region ?_
  refine V_y (Y_move rfl) rfl rfl rfl ?_
  refine V_to (fun _ _ => rfl) ?_
  refine C_cond rfl (fun hc36 => ?_) (fun hc36 => ?_)
  · rw [if_pos hc36] at hm
    refine C_seq ?_
    refine C_region ?_
    have h37 := El_cal_Calendar_2 h11
    refine V_y (Y_fieldAddr Try.underlying28 rfl Try.sizeOf26 (by decide) rfl) rfl rfl rfl ?_
    obtain ⟨v38, h39, h40⟩ := El.list h37
    refine V_y (Y_load h39 Try.isAgg26 rfl) rfl rfl rfl ?_
    refine V_y (Y_move rfl) rfl rfl rfl ?_
    obtain ⟨x41, hx41, hm⟩ := Option.bind_eq_some_iff.1 hm
    refine V_indexAddr h40 hx41 Try.underlying26 Try.sizeOf92 rfl rfl rfl ?_
    intro b42 o43 h44
    have h45 := El_cal_Special_1 h44
    refine V_y (Y_fieldAddr Try.underlying92 rfl Try.sizeOf25 (by decide) rfl) rfl rfl rfl ?_
    obtain ⟨v46, h47, h48⟩ := El.list h45
    refine V_y (Y_load h47 Try.isAgg25 rfl) rfl rfl rfl ?_
    obtain ⟨x49, hx49, hm⟩ := Option.bind_eq_some_iff.1 hm
    refine V_call Try.call118 rfl rfl rfl rfl (slices_Clone_Lcal_Shift_cal_Shift_c w33 hA x41.shifts v46 h48 hx49) ?_
    rintro v50 w52 ⟨_, rfl, h51, hk53⟩
    obtain ⟨A54, ht55, hH56⟩ := Hp.addOwnd hH hB hA hk53 h51
    replace h11 := El.tr h11 ht55
    replace h37 := El.tr h37 ht55
    replace h40 := Sl.tr h40 ht55
    replace h44 := El.tr h44 ht55
    replace h45 := El.tr h45 ht55
    replace h48 := Sl.tr h48 ht55
    replace hK := Tr.trans hK ht55
    replace hB := Nat.le_trans hB ht55.ex.size
    replace hA := ht55.new
    replace hH : Hp w.heap.size A54 w52 (obS (α := cal_Shift) 110 v50 x49 :: []) := hH56
    refine V_y (Y_assign rfl) rfl rfl rfl ?_
    refine V_to (fun _ _ => rfl) ?_
    obtain rfl := Option.some.inj hm
    refine C_ret ?_
    try simp only [↓inBlock_ret, ↓then_ret]
    exact retQ rfl (Res.one Try.results108 rfl) ⟨v50, rfl, (Hp.ownd hH (i := 0) rfl), hK.kp⟩
  · rw [if_neg (nt hc36)] at hm
    refine C_skip_to (fun _ _ => rfl) ?_
    refine C_seq ?_
    refine C_region ?_
    refine V_y (Y_assign rfl) rfl rfl rfl ?_
    refine V_to (fun _ _ => rfl) ?_
    refine C_seq ?_
    refine C_seq ?_
    refine C_region ?_
    have h57 := El_cal_Calendar_1 h11
    refine V_y (Y_fieldAddr Try.underlying28 rfl Try.sizeOf25 (by decide) rfl) rfl rfl rfl ?_
    obtain ⟨v58, h59, h60⟩ := El.list h57
    refine V_y (Y_load h59 Try.isAgg25 rfl) rfl rfl rfl ?_
    refine V_y (Y_lenSl h60 rfl Try.underlying25 rfl) rfl rfl rfl ?_
    refine V_y (Y_move rfl) rfl rfl rfl ?_
    refine V_to (fun _ _ => rfl) ?_
    replace hH : Hp w.heap.size A w33 (obS (α := cal_Shift) 110 (.slice none 0 0) ([] : (List cal_Shift)) :: []) := Hp.addNil (α := cal_Shift) (e := 110) hH
    have hn85 := Sl.le h60
    obtain ⟨o61, ho61, hm⟩ := Option.bind_eq_some_iff.1 hm
    refine C_cutG (ι := ((List cal_Shift) × Value × (Nat → Prop))) (fun ⟨s62, v68, A70⟩ => [(7, v68)]) (fun ⟨s62, v68, A70⟩ => fun w' => o61 = .fin s62 ∧ Hp w.heap.size A70 w' (obS (α := cal_Shift) 110 v68 s62 :: []) ∧ Tr w.heap.size A w33 A70 w') ?_ ?_
    · refine C_block ?_
      refine C_range ho61 (fun k64 s72 a w' => ∃ i : (Value × (Nat → Prop)), Has ⟨50, [], none⟩ a ([(1, .int .i64 day), (7, i.1), (26, v58), (27, .int .i64 (c.week.length : Int)), (28, .int .i64 (k64 : Int))]) ∧ Hp w.heap.size i.2 w' (obS (α := cal_Shift) 110 i.1 s72 :: []) ∧ Tr w.heap.size A w33 i.2 w') (fun a ha => ⟨(.slice none 0 0, A), ha.sub ⟨rfl, rfl, rfl, rfl, rfl, trivial⟩, ⟨hH, Tr.refl hA⟩⟩) ?_
      rintro K k64 s72 a w73 ⟨⟨v74, A76⟩, ha144, hH77, hr63⟩ hle81 K84 h83
      refine C_of ?_ ha144
      replace h60 := Sl.tr h60 hr63
      replace hK := Tr.trans hK hr63
      replace hB := Nat.le_trans hB hr63.ex.size
      replace hA := hr63.new
      replace hH : Hp w.heap.size A76 w73 (obS (α := cal_Shift) 110 v74 s72 :: []) := hH77
      refine C_seq (C_region (V_y (Y_lss rfl rfl) rfl rfl rfl (V_to (fun _ _ => rfl) ?_)))
      refine C_seq ?_
      refine C_cond rfl (fun hc86 => ?_) (fun hc86 => ?_)
      · have hlt82 := lt_of_dec hc86
        obtain ⟨x78, h79, h80⟩ := K84 hlt82
        refine C_skip_to (fun _ _ => rfl) ?_
        refine C_seq ?_
        obtain ⟨s88, ho87, h79⟩ := Option.bind_eq_some_iff.1 h79
        refine C_cutG (ι := (Value × (Nat → Prop))) (fun ⟨v90, A95⟩ => [(1, .int .i64 day), (7, v90), (26, v58), (27, .int .i64 (c.week.length : Int)), (28, .int .i64 (k64 : Int))]) (fun ⟨v90, A95⟩ => fun w' => Hp w.heap.size A95 w' (obS (α := cal_Shift) 110 v90 s88 :: []) ∧ Tr w.heap.size A76 w73 A95 w') ?_ ?_
        · have hr89 : Tr w.heap.size A76 w73 A76 w73 := Tr.refl hA
          refine C_block ?_
          refine C_seq ?_
          refine C_region ?_
          obtain ⟨x97, hx97, ho87⟩ := Option.bind_eq_some_iff.1 ho87
          refine V_indexAddr h60 hx97 Try.underlying25 Try.sizeOf110 rfl rfl rfl ?_
          intro b98 o99 h100
          obtain ⟨h101, _⟩ := El_cal_Shift h100
          refine V_y (Y_loadA h101 Try.isAgg110 Try.sizeOf110 rfl) rfl rfl rfl ?_
          refine V_alloc Try.zeroValue110 rfl ?_
          intro b102 w103 h104
          refine V_storeNew h104 Try.sizeOf110 rfl rfl rfl rfl (by exact (List.forall_mem_cons.2 ⟨rfl, (List.forall_mem_cons.2 ⟨rfl, (List.forall_mem_cons.2 ⟨rfl, (fun _ h => nomatch h)⟩)⟩)⟩)) ?_
          intro w105 h106
          have hk108 := h106.kp
          have h107 : El (α := cal_Shift) A76 w105 b102 0 x97 := h106.el hA ⟨[.int .i64 x97.day], _, rfl, rfl, ⟨[.int .i64 x97.from_], _, rfl, rfl, rfl⟩⟩
          have ht109 := Kp.tr hk108 hA hB
          replace hH := Hp.kp hH hk108
          replace h60 := Sl.tr h60 ht109
          replace h100 := El.tr h100 ht109
          replace hK := Tr.trans hK ht109
          replace hr63 := Tr.trans hr63 ht109
          replace hr89 := Tr.trans hr89 ht109
          replace hB := Nat.le_trans hB ht109.ex.size
          replace hA := ht109.new
          refine V_to (fun _ _ => rfl) ?_
          refine C_seq ?_
          refine C_region_q Try_mixed (by kernel_rfl) ?_
          have h110 := El_cal_Shift_0 h107
          refine VQ_y (fun w' hw' => Y_fieldAddr Try.underlying110 rfl Try.sizeOf3 (by decide) rfl) rfl rfl rfl ?_
          refine VQ_y (fun w' hw' => Y_load (El.int (El.kp h110 hw')) Try.isAgg3 rfl) rfl rfl rfl ?_
          refine VQ_y (fun w' hw' => Y_move rfl) rfl rfl rfl ?_
          refine VQ_y (fun w' hw' => Y_move rfl) rfl rfl rfl ?_
          obtain ⟨x111, hx111, ho87⟩ := Option.bind_eq_some_iff.1 ho87
          refine VQ_call (.int .i64 x111) Try.call109 rfl rfl rfl rfl (fun w' hw' => (cal_floor_c w' day 7 hx111).mono (fun _ _ h => ⟨h.1, h.2 ▸ hw'⟩)) ?_
          refine VQ_y (fun w' hw' => Y_mulI rfl rfl) rfl rfl rfl ?_
          refine VQ_y (fun w' hw' => Y_subI rfl rfl) rfl rfl rfl ?_
          refine VQ_y (fun w' hw' => Y_eql rfl rfl) rfl rfl rfl ?_
          refine VQ_to (fun _ _ => rfl) (fun w112 hk113 => ?_)
          have ht114 := Kp.tr hk113 hA hB
          replace hH := Hp.kp hH hk113
          replace h60 := Sl.tr h60 ht114
          replace h107 := El.tr h107 ht114
          replace hK := Tr.trans hK ht114
          replace hr63 := Tr.trans hr63 ht114
          replace hr89 := Tr.trans hr89 ht114
          replace hB := Nat.le_trans hB ht114.ex.size
          replace hA := ht114.new
          obtain ⟨s116, ho115, ho87⟩ := Option.bind_eq_some_iff.1 ho87
          refine C_cutG (ι := (Value × (Nat → Prop))) (fun ⟨v118, A123⟩ => [(1, .int .i64 day), (7, v118), (26, v58), (27, .int .i64 (c.week.length : Int)), (28, .int .i64 (k64 : Int))]) (fun ⟨v118, A123⟩ => fun w' => Hp w.heap.size A123 w' (obS (α := cal_Shift) 110 v118 s116 :: []) ∧ Tr w.heap.size A76 w112 A123 w') ?_ ?_
          · have hr117 : Tr w.heap.size A76 w112 A76 w112 := Tr.refl hA
            refine C_cond rfl (fun hc125 => ?_) (fun hc125 => ?_)
            · rw [if_pos hc125] at ho115
              refine C_region ?_
              refine V_y (Y_move rfl) rfl rfl rfl ?_
              have h126 := El_cal_Shift_1 h107
              refine V_y (Y_fieldAddr Try.underlying110 rfl Try.sizeOf3 (by decide) rfl) rfl rfl rfl ?_
              refine V_y (Y_load (El.int h126) Try.isAgg3 rfl) rfl rfl rfl ?_
              have h127 := El_cal_Shift_2 h107
              refine V_y (Y_fieldAddr Try.underlying110 rfl Try.sizeOf3 (by decide) rfl) rfl rfl rfl ?_
              refine V_y (Y_load (El.int h127) Try.isAgg3 rfl) rfl rfl rfl ?_
              refine V_y (Y_build Try.underlying110 Try.zeroValue110 (Try_places110 _ Try.underlying110) rfl (by with_unfolding_all rfl)) rfl rfl rfl ?_
              refine V_buildSlice (l := ([(⟨0, x97.from_, x97.to_⟩ : cal_Shift)] : List cal_Shift)) (len := 1) Try.underlying25 Try.sizeOf110 Try.zeroValue110 rfl (by with_unfolding_all rfl) (by decide) (by decide) hA ⟨[.int .i64 0, .int .i64 x97.from_, .int .i64 x97.to_], _, rfl, ⟨[.int .i64 0], _, rfl, rfl, ⟨[.int .i64 x97.from_], _, rfl, rfl, rfl⟩⟩, rfl⟩ rfl rfl ?_
              intro v128 w129 hk131 h130
              have ht132 := Kp.tr hk131 hA hB
              replace hH := Hp.kp hH hk131
              replace h60 := Sl.tr h60 ht132
              replace h107 := El.tr h107 ht132
              replace h126 := El.tr h126 ht132
              replace h127 := El.tr h127 ht132
              replace hK := Tr.trans hK ht132
              replace hr63 := Tr.trans hr63 ht132
              replace hr89 := Tr.trans hr89 ht132
              replace hr117 := Tr.trans hr117 ht132
              replace hB := Nat.le_trans hB ht132.ex.size
              replace hA := ht132.new
              obtain ⟨x133, hx133, ho115⟩ := Option.bind_eq_some_iff.1 ho115
              refine V_appendH (e := 110) (v := v74) (l := s72) (ti := Try.t110) (bytes := 24) (lim := 5864062014805) hH (i := 0) rfl h130 hx133 Try.underlying25 Try_info110 rfl rfl rfl rfl (by decide) (by decide) (by decide) hB hA rfl rfl rfl ?_
              intro v134 w135 A136 hH137 ht138
              replace h60 := Sl.tr h60 ht138
              replace h107 := El.tr h107 ht138
              replace h126 := El.tr h126 ht138
              replace h127 := El.tr h127 ht138
              replace h130 := Sl.tr h130 ht138
              replace hK := Tr.trans hK ht138
              replace hr63 := Tr.trans hr63 ht138
              replace hr89 := Tr.trans hr89 ht138
              replace hr117 := Tr.trans hr117 ht138
              replace hB := Nat.le_trans hB ht138.ex.size
              replace hA := ht138.new
              replace hH : Hp w.heap.size A136 w135 (obS (α := cal_Shift) 110 v134 x133 :: []) := hH137
              refine V_y (Y_assign rfl) rfl rfl rfl ?_
              obtain rfl := Option.some.inj ho115
              refine V_end (fun a ha139 => ?_)
              exact ⟨(v134, A136), ha139.sub ⟨rfl, rfl, rfl, rfl, rfl, trivial⟩, ⟨hH, hr117⟩⟩
            · rw [if_neg (nt hc125)] at ho115
              obtain rfl := Option.some.inj ho115
              refine C_skip (fun a ha140 => ?_)
              exact ⟨(v74, A76), ha140.sub ⟨rfl, rfl, rfl, rfl, rfl, trivial⟩, ⟨hH, hr117⟩⟩
          rintro ⟨v118, A123⟩ w120 ⟨hH124, hk121⟩ a ha122
          replace h60 := Sl.tr h60 hk121
          replace hK := Tr.trans hK hk121
          replace hr63 := Tr.trans hr63 hk121
          replace hr89 := Tr.trans hr89 hk121
          replace hB := Nat.le_trans hB hk121.ex.size
          replace hA := hk121.new
          replace hH : Hp w.heap.size A123 w120 (obS (α := cal_Shift) 110 v118 s116 :: []) := hH124
          obtain rfl := Option.some.inj ho87
          exact ⟨(v118, A123), ha122.sub ⟨rfl, rfl, rfl, rfl, rfl, trivial⟩, ⟨hH, hr89⟩⟩
        rintro ⟨v90, A95⟩ w92 ⟨hH96, hk93⟩ a ha94
        replace h60 := Sl.tr h60 hk93
        replace hK := Tr.trans hK hk93
        replace hr63 := Tr.trans hr63 hk93
        replace hB := Nat.le_trans hB hk93.ex.size
        replace hA := hk93.new
        replace hH : Hp w.heap.size A95 w92 (obS (α := cal_Shift) 110 v90 s88 :: []) := hH96
        refine C_at (n := ⟨50, [], none⟩) (fun _ _ => rfl) ?_ ha94
        refine C_region ?_
        refine V_y (Y_addI rfl rfl) rfl rfl rfl ?_
        refine V_y (Y_move rfl) rfl rfl rfl ?_
        obtain rfl := Option.some.inj h79
        refine V_end (fun a ha142 => ?_)
        exact ⟨s88, hlt82, h80, ⟨(v90, A95), ha142.sub ⟨rfl, rfl, rfl, rfl, (congrArg (fun z => some (Value.int .i64 z)) (w64_succ hlt82 hn85)), trivial⟩, ⟨hH, hr63⟩⟩⟩
      · refine C_exit (fun a ha143 => ?_)
        exact ⟨(s72, v74, A76), ha143.sub ⟨rfl, trivial⟩, ⟨(h83 (eq_of_dec hle81 hc86)).symm, hH, hr63⟩⟩
    rintro ⟨s62, v68, A70⟩ w65 ⟨rfl, hH71, hk66⟩ a ha67
    rw [Lp.andThen_fin] at hm
    replace hK := Tr.trans hK hk66
    replace hB := Nat.le_trans hB hk66.ex.size
    replace hA := hk66.new
    replace hH : Hp w.heap.size A70 w65 (obS (α := cal_Shift) 110 v68 s62 :: []) := hH71
    refine C_at (n := ⟨50, [], none⟩) (fun _ _ => rfl) ?_ ha67
    refine C_seq ?_
    refine C_region ?_
    refine V_y (Y_move rfl) rfl rfl rfl ?_
    refine V_y (Y_assign rfl) rfl rfl rfl ?_
    refine V_to (fun _ _ => rfl) ?_
    obtain rfl := Option.some.inj hm
    refine C_ret ?_
    try simp only [↓inBlock_ret, ↓then_ret]
    exact retQ rfl (Res.one Try.results108 rfl) ⟨v68, rfl, (Hp.ownd hH (i := 0) rfl), hK.kp⟩

set_option maxRecDepth 4000 in
set_option maxHeartbeats 4000000 in
theorem cal_Calendar_shifts_1_1_c (w : World) {A : Nat → Prop} {B : Nat} (hB : B ≤ w.heap.size) (hA : ∀ b, w.heap.size ≤ b → A b) (day : Int) (p1 : cal_Calendar) (b_p1 : Nat) (h_p1 : El A w b_p1 0 p1) (p2 : cal_part) (b_p2 : Nat) (h_p2 : El A w b_p2 0 p2) (p3 : Int) (b_p3 : Nat) (h_p3 : El A w b_p3 0 p3) (p4 : Int) (b_p4 : Nat) (h_p4 : El A w b_p4 0 p4) {p5_S : Type} (p5 : cal_Span → p5_S → Option (Bool × p5_S)) (p5_Y : p5_S → Ob) (p5_v : Value) (p5_one : p5_v.cells.toList = [p5_v]) (p5_s : p5_S) (p5_spec : ∀ (w2 : World) (A2 : Nat → Prop) (L2 : List Ob) (x : cal_Span) (z : p5_S) (b : Bool) (z2 : p5_S), B ≤ w2.heap.size → (∀ b, w2.heap.size ≤ b → A2 b) → Tr B A w A2 w2 → Hp B A2 w2 (p5_Y z :: L2) → p5 x z = some (b, z2) → CallV Try.prog p5_v [.agg #[.int .i64 x.from_, .int .i64 x.to_]] w2 fun v w3 => v = .bool b ∧ ∃ A3, Tr B A2 w2 A3 w3 ∧ Hp B A3 w3 (p5_Y z2 :: L2)) (b_p5 : Nat) (h_p5 : Vb A w b_p5 p5_v) {L : List Ob} (hH : Hp B A w (p5_Y p5_s :: L)) {r : (Bool × p5_S)} (hm : cal_Calendar_shifts_1_1 day p1 p2 p3 p4 p5 p5_s = some r) : Ret Try.prog 107 #[.int .i64 day, .pointer (some ⟨b_p1, 0, none⟩), .pointer (some ⟨b_p2, 0, none⟩), .pointer (some ⟨b_p3, 0, none⟩), .pointer (some ⟨b_p4, 0, none⟩), .pointer (some ⟨b_p5, 0, none⟩)] w fun v w' => ∃ A1 : Nat → Prop, v = .bool r.1 ∧ Hp B A1 w' (p5_Y r.2 :: L) ∧ Tr B A w A1 w' := by
  unfold cal_Calendar_shifts_1_1 at hm
  refine enter Try.func107 rfl Try.ntmps107 rfl ?_
  have hK : Tr B A w A w := Tr.refl hA
  refine C_seq ?_
  refine C_region ?_
  refine V_y (Y_assign rfl) rfl rfl rfl ?_
  refine V_to (fun _ _ => rfl) ?_
  refine C_seq ?_
  refine C_seq ?_
  refine C_region ?_
  obtain ⟨v1, v3, v5, h7, h2, h4, h6⟩ := El_cal_Calendar h_p1
  refine V_y (Y_loadA h7 Try.isAgg28 Try.sizeOf28 rfl) rfl rfl rfl ?_
  refine V_y (Y_move rfl) rfl rfl rfl ?_
  obtain ⟨x8, hx8, hm⟩ := Option.bind_eq_some_iff.1 hm
  refine V_call Try.call108 rfl rfl rfl rfl (cal_Calendar_shiftsOf_c w hA p1 v1 h2 v3 h4 v5 h6 day hx8) ?_
  rintro v9 w11 ⟨_, rfl, h10, hk12⟩
  obtain ⟨A13, ht14, hH15⟩ := Hp.addOwnd hH hB hA hk12 h10
  replace h_p1 := El.tr h_p1 ht14
  replace h_p2 := El.tr h_p2 ht14
  replace h_p3 := El.tr h_p3 ht14
  replace h_p4 := El.tr h_p4 ht14
  replace h_p5 := Vb.tr h_p5 ht14
  replace h2 := Sl.tr h2 ht14
  replace h4 := Sl.tr h4 ht14
  replace h6 := Sl.tr h6 ht14
  replace hK := Tr.trans hK ht14
  replace hB := Nat.le_trans hB ht14.ex.size
  replace hA := ht14.new
  replace hH : Hp B A13 w11 (obS (α := cal_Shift) 110 v9 x8 :: p5_Y p5_s :: L) := hH15
  refine V_y (Y_lenSl (Hp.any (α := cal_Shift) (e := 110) (v := v9) (l := x8) hH (i := 0) rfl) rfl Try.underlying25 rfl) rfl rfl rfl ?_
  refine V_y (Y_move rfl) rfl rfl rfl ?_
  refine V_to (fun _ _ => rfl) ?_
  have hn36 := Hp.le (α := cal_Shift) (e := 110) (v := v9) (l := x8) hH (i := 0) rfl
  obtain ⟨o16, ho16, hm⟩ := Option.bind_eq_some_iff.1 hm
  refine C_cutG (ι := (p5_S × (Nat → Prop))) (fun ⟨s17, A23⟩ => []) (fun ⟨s17, A23⟩ => fun w' => o16 = .fin s17 ∧ Hp B A23 w' (obS (α := cal_Shift) 110 v9 x8 :: p5_Y s17 :: L) ∧ Tr B A13 w11 A23 w') ?_ ?_
  · refine C_block ?_
    refine C_range ho16 (fun k19 s25 a w' => ∃ i : (Nat → Prop), Has ⟨50, [], none⟩ a ([(0, .int .i64 day), (2, .pointer (some ⟨b_p2, 0, none⟩)), (3, .pointer (some ⟨b_p3, 0, none⟩)), (4, .pointer (some ⟨b_p4, 0, none⟩)), (5, .pointer (some ⟨b_p5, 0, none⟩)), (14, v9), (15, .int .i64 (x8.length : Int)), (16, .int .i64 (k19 : Int))]) ∧ Hp B i w' (obS (α := cal_Shift) 110 v9 x8 :: p5_Y s25 :: L) ∧ Tr B A13 w11 i w') (fun a ha => ⟨A13, ha.sub ⟨rfl, rfl, rfl, rfl, rfl, rfl, rfl, rfl, trivial⟩, ⟨hH, Tr.refl hA⟩⟩) ?_
    rintro K k19 s25 a w26 ⟨A27, ha85, hH28, hr18⟩ hle32 K35 h34
    refine C_of ?_ ha85
    replace h_p2 := El.tr h_p2 hr18
    replace h_p3 := El.tr h_p3 hr18
    replace h_p4 := El.tr h_p4 hr18
    replace h_p5 := Vb.tr h_p5 hr18
    replace hK := Tr.trans hK hr18
    replace hB := Nat.le_trans hB hr18.ex.size
    replace hA := hr18.new
    replace hH : Hp B A27 w26 (obS (α := cal_Shift) 110 v9 x8 :: p5_Y s25 :: L) := hH28
    refine C_seq (C_region (V_y (Y_lss rfl rfl) rfl rfl rfl (V_to (fun _ _ => rfl) ?_)))
    refine C_seq ?_
    refine C_cond rfl (fun hc37 => ?_) (fun hc37 => ?_)
    · have hlt33 := lt_of_dec hc37
      obtain ⟨x29, h30, h31⟩ := K35 hlt33
      refine C_skip_to (fun _ _ => rfl) ?_
      refine C_seq ?_
      refine C_block ?_
      refine C_seq ?_
      refine C_region ?_
      obtain ⟨x38, hx38, h30⟩ := Option.bind_eq_some_iff.1 h30
      refine V_indexAddrH (α := cal_Shift) (e := 110) (v := v9) (l := x8) hH (i := 0) rfl hx38 Try.underlying25 Try.sizeOf110 rfl rfl rfl ?_
      intro b39 o40 h41 hl42
      obtain ⟨h43, _⟩ := El_cal_Shift h41
      refine V_y (Y_loadA h43 Try.isAgg110 Try.sizeOf110 rfl) rfl rfl rfl ?_
      refine V_alloc Try.zeroValue110 rfl ?_
      intro b44 w45 h46
      refine V_storeNew h46 Try.sizeOf110 rfl rfl rfl rfl (by exact (List.forall_mem_cons.2 ⟨rfl, (List.forall_mem_cons.2 ⟨rfl, (List.forall_mem_cons.2 ⟨rfl, (fun _ h => nomatch h)⟩)⟩)⟩)) ?_
      intro w47 h48
      have hk50 := h48.kp
      have h49 : El (α := cal_Shift) A27 w47 b44 0 x38 := h48.el hA ⟨[.int .i64 x38.day], _, rfl, rfl, ⟨[.int .i64 x38.from_], _, rfl, rfl, rfl⟩⟩
      have ht51 := Kp.tr hk50 hA hB
      replace hH := Hp.kp hH hk50
      replace h_p2 := El.tr h_p2 ht51
      replace h_p3 := El.tr h_p3 ht51
      replace h_p4 := El.tr h_p4 ht51
      replace h_p5 := Vb.tr h_p5 ht51
      replace h41 := El.kp h41 hk50
      replace hK := Tr.trans hK ht51
      replace hr18 := Tr.trans hr18 ht51
      replace hB := Nat.le_trans hB ht51.ex.size
      replace hA := ht51.new
      refine V_to (fun _ _ => rfl) ?_
      refine C_seq ?_
      refine C_region ?_
      refine V_y (Y_move rfl) rfl rfl rfl ?_
      refine V_y (Y_mulI rfl rfl) rfl rfl rfl ?_
      have h52 := El_cal_part_2 h_p2
      refine V_y (Y_fieldAddr Try.underlying139 rfl Try.sizeOf3 (by decide) rfl) rfl rfl rfl ?_
      refine V_y (Y_load (El.int h52) Try.isAgg3 rfl) rfl rfl rfl ?_
      refine V_y (Y_subI rfl rfl) rfl rfl rfl ?_
      refine V_y (Y_assign rfl) rfl rfl rfl ?_
      refine V_to (fun _ _ => rfl) ?_
      refine C_seq ?_
      refine C_region ?_
      refine V_y (Y_load (El.int h_p3) Try.isAgg3 rfl) rfl rfl rfl ?_
      refine V_y (Y_move rfl) rfl rfl rfl ?_
      have h53 := El_cal_Shift_1 h49
      refine V_y (Y_fieldAddr Try.underlying110 rfl Try.sizeOf3 (by decide) rfl) rfl rfl rfl ?_
      refine V_y (Y_load (El.int h53) Try.isAgg3 rfl) rfl rfl rfl ?_
      refine V_y (Y_addI rfl rfl) rfl rfl rfl ?_
      refine V_y (Y_max2 rfl rfl) rfl rfl rfl ?_
      refine V_y (Y_load (El.int h_p4) Try.isAgg3 rfl) rfl rfl rfl ?_
      refine V_y (Y_move rfl) rfl rfl rfl ?_
      have h54 := El_cal_Shift_2 h49
      refine V_y (Y_fieldAddr Try.underlying110 rfl Try.sizeOf3 (by decide) rfl) rfl rfl rfl ?_
      refine V_y (Y_load (El.int h54) Try.isAgg3 rfl) rfl rfl rfl ?_
      refine V_y (Y_addI rfl rfl) rfl rfl rfl ?_
      refine V_y (Y_min2 rfl rfl) rfl rfl rfl ?_
      refine V_y (Y_build Try.underlying48 Try.zeroValue48 (Try_places48 _ Try.underlying48) rfl (by with_unfolding_all rfl)) rfl rfl rfl ?_
      refine V_alloc Try.zeroValue48 rfl ?_
      intro b55 w56 h57
      refine V_storeNew h57 Try.sizeOf48 rfl rfl rfl rfl (by exact (List.forall_mem_cons.2 ⟨rfl, (List.forall_mem_cons.2 ⟨rfl, (fun _ h => nomatch h)⟩)⟩)) ?_
      intro w58 h59
      have hk61 := h59.kp
      have h60 : El (α := cal_Span) A27 w58 b55 0 (⟨(if p3 < w64 ((w64 ((w64 (day * 1440)) - p2.offset)) + x38.from_) then w64 ((w64 ((w64 (day * 1440)) - p2.offset)) + x38.from_) else p3), (if w64 ((w64 ((w64 (day * 1440)) - p2.offset)) + x38.to_) < p4 then w64 ((w64 ((w64 (day * 1440)) - p2.offset)) + x38.to_) else p4)⟩ : cal_Span) := h59.el hA ⟨[.int .i64 (if p3 < w64 ((w64 ((w64 (day * 1440)) - p2.offset)) + x38.from_) then w64 ((w64 ((w64 (day * 1440)) - p2.offset)) + x38.from_) else p3)], _, rfl, rfl, rfl⟩
      have ht62 := Kp.tr hk61 hA hB
      replace hH := Hp.kp hH hk61
      replace h_p2 := El.tr h_p2 ht62
      replace h_p3 := El.tr h_p3 ht62
      replace h_p4 := El.tr h_p4 ht62
      replace h_p5 := Vb.tr h_p5 ht62
      replace h49 := El.tr h49 ht62
      replace h53 := El.tr h53 ht62
      replace h54 := El.tr h54 ht62
      replace hK := Tr.trans hK ht62
      replace hr18 := Tr.trans hr18 ht62
      replace hB := Nat.le_trans hB ht62.ex.size
      replace hA := ht62.new
      refine V_to (fun _ _ => rfl) ?_
      refine C_seq ?_
      obtain ⟨s64, ho63, h30⟩ := Option.bind_eq_some_iff.1 h30
      refine C_cutG (ι := (Nat → Prop)) (fun (A69 : (Nat → Prop)) => [(0, .int .i64 day), (2, .pointer (some ⟨b_p2, 0, none⟩)), (3, .pointer (some ⟨b_p3, 0, none⟩)), (4, .pointer (some ⟨b_p4, 0, none⟩)), (5, .pointer (some ⟨b_p5, 0, none⟩)), (14, v9), (15, .int .i64 (x8.length : Int)), (16, .int .i64 (k19 : Int)), (48, .bool s64.1)]) (fun (A69 : (Nat → Prop)) => fun w' => Hp B A69 w' (obS (α := cal_Shift) 110 v9 x8 :: p5_Y s64.2 :: L) ∧ Tr B A27 w58 A69 w') ?_ ?_
      · have hr65 : Tr B A27 w58 A27 w58 := Tr.refl hA
        refine C_region ?_
        have h71 := El_cal_Span_0 h60
        refine V_y (Y_fieldAddr Try.underlying48 rfl Try.sizeOf3 (by decide) rfl) rfl rfl rfl ?_
        refine V_y (Y_load (El.int h71) Try.isAgg3 rfl) rfl rfl rfl ?_
        have h72 := El_cal_Span_1 h60
        refine V_y (Y_fieldAddr Try.underlying48 rfl Try.sizeOf3 (by decide) rfl) rfl rfl rfl ?_
        refine V_y (Y_load (El.int h72) Try.isAgg3 rfl) rfl rfl rfl ?_
        refine V_y (Y_lss rfl rfl) rfl rfl rfl ?_
        refine V_y (Y_move rfl) rfl rfl rfl ?_
        rcases Bool.eq_false_or_eq_true (decide (((⟨(if p3 < w64 ((w64 ((w64 (day * 1440)) - p2.offset)) + x38.from_) then w64 ((w64 ((w64 (day * 1440)) - p2.offset)) + x38.from_) else p3), (if w64 ((w64 ((w64 (day * 1440)) - p2.offset)) + x38.to_) < p4 then w64 ((w64 ((w64 (day * 1440)) - p2.offset)) + x38.to_) else p4)⟩ : cal_Span).from_) < ((⟨(if p3 < w64 ((w64 ((w64 (day * 1440)) - p2.offset)) + x38.from_) then w64 ((w64 ((w64 (day * 1440)) - p2.offset)) + x38.from_) else p3), (if w64 ((w64 ((w64 (day * 1440)) - p2.offset)) + x38.to_) < p4 then w64 ((w64 ((w64 (day * 1440)) - p2.offset)) + x38.to_) else p4)⟩ : cal_Span).to_))) with hc73 | hc73
        · rw [if_pos hc73] at ho63
          refine V_ge rfl rfl rfl hc73 ?_
          refine V_y (Y_load h_p5.2.2 Try.isAgg119 rfl) rfl rfl rfl ?_
          refine V_ge rfl rfl rfl hc73 ?_
          obtain ⟨h74, _⟩ := El_cal_Span h60
          refine V_y (Y_loadA h74 Try.isAgg48 Try.sizeOf48 rfl) rfl rfl rfl ?_
          refine V_ge rfl rfl rfl hc73 ?_
          obtain ⟨x75, hx75, ho63⟩ := Option.bind_eq_some_iff.1 ho63
          replace hH : Hp B A27 w58 (p5_Y s25 :: obS (α := cal_Shift) 110 v9 x8 :: L) := Hp.front hH (i := 1) rfl
          refine V_callV rfl rfl rfl (p5_spec w58 _ _ (⟨(if p3 < w64 ((w64 ((w64 (day * 1440)) - p2.offset)) + x38.from_) then w64 ((w64 ((w64 (day * 1440)) - p2.offset)) + x38.from_) else p3), (if w64 ((w64 ((w64 (day * 1440)) - p2.offset)) + x38.to_) < p4 then w64 ((w64 ((w64 (day * 1440)) - p2.offset)) + x38.to_) else p4)⟩ : cal_Span) _ x75.1 x75.2 hB hA hK hH hx75) ?_
          rintro _ w76 ⟨rfl, A77, ht79, hH78⟩
          replace h_p2 := El.tr h_p2 ht79
          replace h_p3 := El.tr h_p3 ht79
          replace h_p4 := El.tr h_p4 ht79
          replace h_p5 := Vb.tr h_p5 ht79
          replace h60 := El.tr h60 ht79
          replace h71 := El.tr h71 ht79
          replace h72 := El.tr h72 ht79
          replace hK := Tr.trans hK ht79
          replace hr18 := Tr.trans hr18 ht79
          replace hr65 := Tr.trans hr65 ht79
          replace hB := Nat.le_trans hB ht79.ex.size
          replace hA := ht79.new
          replace hH : Hp B A77 w76 (p5_Y x75.2 :: obS (α := cal_Shift) 110 v9 x8 :: L) := hH78
          refine V_ge rfl rfl rfl hc73 ?_
          refine V_y (Y_not rfl) rfl rfl rfl ?_
          refine V_y (Y_pick_te rfl hc73 rfl) rfl rfl rfl ?_
          obtain rfl := Option.some.inj ho63
          refine V_end (fun a ha80 => ?_)
          replace hH : Hp B A77 w76 (obS (α := cal_Shift) 110 v9 x8 :: p5_Y x75.2 :: L) := Hp.front hH (i := 1) rfl
          exact ⟨A77, ha80.sub ⟨rfl, rfl, rfl, rfl, rfl, rfl, rfl, rfl, rfl, trivial⟩, ⟨hH, hr65⟩⟩
        · rw [if_neg (nt hc73)] at ho63
          refine V_gn rfl rfl rfl hc73 rfl rfl rfl ?_
          refine V_gn rfl rfl rfl hc73 rfl rfl rfl ?_
          refine V_gn rfl rfl rfl hc73 rfl rfl rfl ?_
          refine V_gn rfl rfl rfl hc73 rfl rfl rfl ?_
          refine V_y (Y_pick_fe rfl hc73 rfl) rfl rfl rfl ?_
          obtain rfl := Option.some.inj ho63
          refine V_end (fun a ha81 => ?_)
          exact ⟨A27, ha81.sub ⟨rfl, rfl, rfl, rfl, rfl, rfl, rfl, rfl, rfl, trivial⟩, ⟨hH, hr65⟩⟩
      rintro A69 w66 ⟨hH70, hk67⟩ a ha68
      replace h_p2 := El.tr h_p2 hk67
      replace h_p3 := El.tr h_p3 hk67
      replace h_p4 := El.tr h_p4 hk67
      replace h_p5 := Vb.tr h_p5 hk67
      replace hK := Tr.trans hK hk67
      replace hr18 := Tr.trans hr18 hk67
      replace hB := Nat.le_trans hB hk67.ex.size
      replace hA := hk67.new
      replace hH : Hp B A69 w66 (obS (α := cal_Shift) 110 v9 x8 :: p5_Y s64.2 :: L) := hH70
      refine C_at (n := ⟨50, [], none⟩) (fun _ _ => rfl) ?_ ha68
      refine C_cond rfl (fun hc82 => ?_) (fun hc82 => ?_)
      · rw [if_pos hc82] at h30
        refine C_seq ?_
        refine C_region ?_
        refine V_y (Y_assign rfl) rfl rfl rfl ?_
        refine V_to (fun _ _ => rfl) ?_
        obtain rfl := Option.some.inj h30
        obtain rfl := (h31 : Lp.rt _ = _)
        rw [Lp.andThen_rt] at hm
        obtain rfl := Option.some.inj hm
        replace hH : Hp B A69 w66 (p5_Y s64.2 :: obS (α := cal_Shift) 110 v9 x8 :: L) := Hp.front hH (i := 1) rfl
        replace hH : Hp B A69 w66 (p5_Y s64.2 :: L) := Hp.drop hH (i := 1) rfl
        refine C_ret ?_
        try simp only [↓inBlock_ret, ↓then_ret]
        exact retQ rfl (Res.one Try.results107 rfl) ⟨A69, rfl, hH, hK⟩
      · rw [if_neg (nt hc82)] at h30
        refine C_skip_to (fun _ _ => rfl) ?_
        refine C_region ?_
        refine V_y (Y_addI rfl rfl) rfl rfl rfl ?_
        refine V_y (Y_move rfl) rfl rfl rfl ?_
        obtain rfl := Option.some.inj h30
        refine V_end (fun a ha83 => ?_)
        exact ⟨s64.2, hlt33, h31, ⟨A69, ha83.sub ⟨rfl, rfl, rfl, rfl, rfl, rfl, rfl, (congrArg (fun z => some (Value.int .i64 z)) (w64_succ hlt33 hn36)), trivial⟩, ⟨hH, hr18⟩⟩⟩
    · refine C_exit (fun a ha84 => ?_)
      exact ⟨(s25, A27), ha84.sub trivial, ⟨(h34 (eq_of_dec hle32 hc37)).symm, hH, hr18⟩⟩
  rintro ⟨s17, A23⟩ w20 ⟨rfl, hH24, hk21⟩ a ha22
  rw [Lp.andThen_fin] at hm
  replace hK := Tr.trans hK hk21
  replace hB := Nat.le_trans hB hk21.ex.size
  replace hA := hk21.new
  replace hH : Hp B A23 w20 (obS (α := cal_Shift) 110 v9 x8 :: p5_Y s17 :: L) := hH24
  refine C_at (n := ⟨50, [], none⟩) (fun _ _ => rfl) ?_ ha22
  refine C_seq ?_
  refine C_region ?_
  refine V_y (Y_assign rfl) rfl rfl rfl ?_
  refine V_to (fun _ _ => rfl) ?_
  obtain rfl := Option.some.inj hm
  replace hH : Hp B A23 w20 (p5_Y s17 :: obS (α := cal_Shift) 110 v9 x8 :: L) := Hp.front hH (i := 1) rfl
  replace hH : Hp B A23 w20 (p5_Y s17 :: L) := Hp.drop hH (i := 1) rfl
  refine C_ret ?_
  try simp only [↓inBlock_ret, ↓then_ret]
  exact retQ rfl (Res.one Try.results107 rfl) ⟨A23, rfl, hH, hK⟩

set_option maxRecDepth 4000 in
set_option maxHeartbeats 4000000 in
theorem cal_Calendar_shifts_1_c (w : World) {A : Nat → Prop} {B : Nat} (hB : B ≤ w.heap.size) (hA : ∀ b, w.heap.size ≤ b → A b) {yield_S : Type} (yield : cal_Span → yield_S → Option (Bool × yield_S)) (yield_Y : yield_S → Ob) (yield_v : Value) (yield_one : yield_v.cells.toList = [yield_v]) (yield_s : yield_S) (yield_spec : ∀ (w2 : World) (A2 : Nat → Prop) (L2 : List Ob) (x : cal_Span) (z : yield_S) (b : Bool) (z2 : yield_S), B ≤ w2.heap.size → (∀ b, w2.heap.size ≤ b → A2 b) → Tr B A w A2 w2 → Hp B A2 w2 (yield_Y z :: L2) → yield x z = some (b, z2) → CallV Try.prog yield_v [.agg #[.int .i64 x.from_, .int .i64 x.to_]] w2 fun v w3 => v = .bool b ∧ ∃ A3, Tr B A2 w2 A3 w3 ∧ Hp B A3 w3 (yield_Y z2 :: L2)) (p1 : cal_Calendar) (b_p1 : Nat) (h_p1 : El A w b_p1 0 p1) (p2 : Int) (b_p2 : Nat) (h_p2 : El A w b_p2 0 p2) (p3 : Int) (b_p3 : Nat) (h_p3 : El A w b_p3 0 p3) {L : List Ob} (hH : Hp B A w (yield_Y yield_s :: L)) {r : yield_S} (hm : cal_Calendar_shifts_1 yield yield_s p1 p2 p3 = some r) : Ret Try.prog 105 #[yield_v, .pointer (some ⟨b_p1, 0, none⟩), .pointer (some ⟨b_p2, 0, none⟩), .pointer (some ⟨b_p3, 0, none⟩)] w fun v w' => ∃ A1 : Nat → Prop, v = .tuple #[] ∧ Hp B A1 w' (yield_Y r :: L) ∧ Tr B A w A1 w' := by
  unfold cal_Calendar_shifts_1 at hm
  refine enter Try.func105 rfl Try.ntmps105 rfl ?_
  have hK : Tr B A w A w := Tr.refl hA
  refine C_seq ?_
  refine C_region ?_
  refine V_box rfl rfl ?_
  intro b1 w2 h3
  have hk4 := h3.kp
  have h5 : Vb A w2 b1 yield_v := h3.vb hA yield_one
  have ht6 := Kp.tr hk4 hA hB
  replace hH := Hp.kp hH hk4
  replace h_p1 := El.tr h_p1 ht6
  replace h_p2 := El.tr h_p2 ht6
  replace h_p3 := El.tr h_p3 ht6
  replace hK := Tr.trans hK ht6
  replace hB := Nat.le_trans hB ht6.ex.size
  replace hA := ht6.new
  refine V_to (fun _ _ => rfl) ?_
  refine C_seq ?_
  refine C_region ?_
  have h7 := El_cal_Calendar_0 h_p1
  refine V_y (Y_fieldAddr Try.underlying28 rfl Try.sizeOf24 (by decide) rfl) rfl rfl rfl ?_
  obtain ⟨v8, h10, h9⟩ := El_cal_Zone h7
  refine V_y (Y_loadA h10 Try.isAgg24 Try.sizeOf24 rfl) rfl rfl rfl ?_
  obtain ⟨x11, hx11, hm⟩ := Option.bind_eq_some_iff.1 hm
  refine V_call Try.call106 rfl rfl rfl rfl (cal_Zone_parts_c w2 hA p1.zone v8 h9 hx11) ?_
  rintro v12 w14 ⟨_, rfl, h13, hk15⟩
  obtain ⟨A16, ht17, hH18⟩ := Hp.addOwnd hH hB hA hk15 h13
  replace h_p1 := El.tr h_p1 ht17
  replace h_p2 := El.tr h_p2 ht17
  replace h_p3 := El.tr h_p3 ht17
  replace h5 := Vb.tr h5 ht17
  replace h7 := El.tr h7 ht17
  replace h9 := Sl.tr h9 ht17
  replace hK := Tr.trans hK ht17
  replace hB := Nat.le_trans hB ht17.ex.size
  replace hA := ht17.new
  replace hH : Hp B A16 w14 (obS (α := cal_part) 139 v12 x11 :: yield_Y yield_s :: L) := hH18
  refine V_y (Y_lenSl (Hp.any (α := cal_part) (e := 139) (v := v12) (l := x11) hH (i := 0) rfl) rfl Try.underlying136 rfl) rfl rfl rfl ?_
  refine V_y (Y_move rfl) rfl rfl rfl ?_
  refine V_to (fun _ _ => rfl) ?_
  have hn39 := Hp.le (α := cal_part) (e := 139) (v := v12) (l := x11) hH (i := 0) rfl
  obtain ⟨o19, ho19, hm⟩ := Option.bind_eq_some_iff.1 hm
  refine C_cutG (ι := (yield_S × (Nat → Prop))) (fun ⟨s20, A26⟩ => []) (fun ⟨s20, A26⟩ => fun w' => o19 = .fin s20 ∧ Hp B A26 w' (obS (α := cal_part) 139 v12 x11 :: yield_Y s20 :: L) ∧ Tr B A16 w14 A26 w') ?_ ?_
  · refine C_block ?_
    refine C_range ho19 (fun k22 s28 a w' => ∃ i : (Nat → Prop), Has ⟨52, [], none⟩ a ([(1, .pointer (some ⟨b_p1, 0, none⟩)), (2, .pointer (some ⟨b_p2, 0, none⟩)), (3, .pointer (some ⟨b_p3, 0, none⟩)), (4, .pointer (some ⟨b1, 0, none⟩)), (13, v12), (14, .int .i64 (x11.length : Int)), (15, .int .i64 (k22 : Int))]) ∧ Hp B i w' (obS (α := cal_part) 139 v12 x11 :: yield_Y s28 :: L) ∧ Tr B A16 w14 i w') (fun a ha => ⟨A16, ha.sub ⟨rfl, rfl, rfl, rfl, rfl, rfl, rfl, trivial⟩, ⟨hH, Tr.refl hA⟩⟩) ?_
    rintro K k22 s28 a w29 ⟨A30, ha119, hH31, hr21⟩ hle35 K38 h37
    refine C_of ?_ ha119
    replace h_p1 := El.tr h_p1 hr21
    replace h_p2 := El.tr h_p2 hr21
    replace h_p3 := El.tr h_p3 hr21
    replace h5 := Vb.tr h5 hr21
    replace hK := Tr.trans hK hr21
    replace hB := Nat.le_trans hB hr21.ex.size
    replace hA := hr21.new
    replace hH : Hp B A30 w29 (obS (α := cal_part) 139 v12 x11 :: yield_Y s28 :: L) := hH31
    refine C_seq (C_region (V_y (Y_lss rfl rfl) rfl rfl rfl (V_to (fun _ _ => rfl) ?_)))
    refine C_seq ?_
    refine C_cond rfl (fun hc40 => ?_) (fun hc40 => ?_)
    · have hlt36 := lt_of_dec hc40
      obtain ⟨x32, h33, h34⟩ := K38 hlt36
      refine C_skip_to (fun _ _ => rfl) ?_
      refine C_seq ?_
      obtain ⟨o41, ho41, h33⟩ := Option.bind_eq_some_iff.1 h33
      refine C_cutG (ι := (yield_S × (Nat → Prop))) (fun ⟨s42, A47⟩ => [(1, .pointer (some ⟨b_p1, 0, none⟩)), (2, .pointer (some ⟨b_p2, 0, none⟩)), (3, .pointer (some ⟨b_p3, 0, none⟩)), (4, .pointer (some ⟨b1, 0, none⟩)), (13, v12), (14, .int .i64 (x11.length : Int)), (15, .int .i64 (k22 : Int))]) (fun ⟨s42, A47⟩ => fun w' => o41 = .fin s42 ∧ Hp B A47 w' (obS (α := cal_part) 139 v12 x11 :: yield_Y s42 :: L) ∧ Tr B A30 w29 A47 w') ?_ ?_
      · have hr43 : Tr B A30 w29 A30 w29 := Tr.refl hA
        refine C_block ?_
        refine C_seq ?_
        refine C_region ?_
        obtain ⟨x49, hx49, ho41⟩ := Option.bind_eq_some_iff.1 ho41
        refine V_indexAddrH (α := cal_part) (e := 139) (v := v12) (l := x11) hH (i := 0) rfl hx49 Try.underlying136 Try.sizeOf139 rfl rfl rfl ?_
        intro b50 o51 h52 hl53
        obtain ⟨h54, _⟩ := El_cal_part h52
        refine V_y (Y_loadA h54 Try.isAgg139 Try.sizeOf139 rfl) rfl rfl rfl ?_
        refine V_alloc Try.zeroValue139 rfl ?_
        intro b55 w56 h57
        refine V_storeNew h57 Try.sizeOf139 rfl rfl rfl rfl (by exact (List.forall_mem_cons.2 ⟨rfl, (List.forall_mem_cons.2 ⟨rfl, (List.forall_mem_cons.2 ⟨rfl, (fun _ h => nomatch h)⟩)⟩)⟩)) ?_
        intro w58 h59
        have hk61 := h59.kp
        have h60 : El (α := cal_part) A30 w58 b55 0 x49 := h59.el hA ⟨[.int .i64 x49.from_], _, rfl, rfl, ⟨[.int .i64 x49.to_], _, rfl, rfl, rfl⟩⟩
        have ht62 := Kp.tr hk61 hA hB
        replace hH := Hp.kp hH hk61
        replace h_p1 := El.tr h_p1 ht62
        replace h_p2 := El.tr h_p2 ht62
        replace h_p3 := El.tr h_p3 ht62
        replace h5 := Vb.tr h5 ht62
        replace h52 := El.kp h52 hk61
        replace hK := Tr.trans hK ht62
        replace hr21 := Tr.trans hr21 ht62
        replace hr43 := Tr.trans hr43 ht62
        replace hB := Nat.le_trans hB ht62.ex.size
        replace hA := ht62.new
        refine V_to (fun _ _ => rfl) ?_
        refine C_seq ?_
        refine C_region_def (B := B) (k := 8) [(7, 3, .int .i64 0), (8, 3, .int .i64 0)] [(22, 3), (26, 7)] Try_mixed (by kernel_rfl) rfl ⟨⟨_, _, _, rfl, by simp⟩, Try.zeroValue3, ⟨⟨_, _, _, rfl, by simp⟩, Try.zeroValue3, trivial⟩⟩ ⟨⟨_, _, _, rfl, by decide, by decide⟩, by decide, rfl, Try.sizeOf3, ⟨⟨_, _, _, rfl, by decide, by decide⟩, by decide, rfl, Try.sizeOf3, trivial⟩⟩ rfl rfl (by decide) (by simp [Value.cells]) hH hB hA ?_
        simp only [List.take]
        refine VQ_y (fun w' hw' => Y_load (El.int (El.kp h_p2 hw')) Try.isAgg3 rfl) rfl rfl rfl ?_
        have h70 := El_cal_part_0 h60
        refine VQ_y (fun w' hw' => Y_fieldAddr Try.underlying139 rfl Try.sizeOf3 (by decide) rfl) rfl rfl rfl ?_
        refine VQ_y (fun w' hw' => Y_load (El.int (El.kp h70 hw')) Try.isAgg3 rfl) rfl rfl rfl ?_
        refine VQ_y (fun w' hw' => Y_max2 rfl rfl) rfl rfl rfl ?_
        refine VQ_y (fun w' hw' => Y_load (El.int (El.kp h_p3 hw')) Try.isAgg3 rfl) rfl rfl rfl ?_
        have h71 := El_cal_part_1 h60
        refine VQ_y (fun w' hw' => Y_fieldAddr Try.underlying139 rfl Try.sizeOf3 (by decide) rfl) rfl rfl rfl ?_
        refine VQ_y (fun w' hw' => Y_load (El.int (El.kp h71 hw')) Try.isAgg3 rfl) rfl rfl rfl ?_
        refine VQ_y (fun w' hw' => Y_min2 rfl rfl) rfl rfl rfl ?_
        refine VQ_end fun a ha => ⟨_, [.int .i64 (if p2 < x49.from_ then x49.from_ else p2), .int .i64 (if x49.to_ < p3 then x49.to_ else p3)], ha, rfl, rfl, (by intro v hv; simp only [List.mem_cons, List.not_mem_nil, or_false] at hv; rcases hv with rfl | rfl <;> exact ⟨rfl, rfl⟩), fun b63 w65 A66 hH67 ht68 a ha69 => ?_⟩
        replace h_p1 := El.tr h_p1 ht68
        replace h_p2 := El.tr h_p2 ht68
        replace h_p3 := El.tr h_p3 ht68
        replace h5 := Vb.tr h5 ht68
        replace h60 := El.tr h60 ht68
        replace h70 := El.tr h70 ht68
        replace h71 := El.tr h71 ht68
        replace hK := Tr.trans hK ht68
        replace hr21 := Tr.trans hr21 ht68
        replace hr43 := Tr.trans hr43 ht68
        replace hB := Nat.le_trans hB ht68.ex.size
        replace hA := ht68.new
        replace hH : Hp B A66 w65 (obC (b63 0) [.int .i64 (if p2 < x49.from_ then x49.from_ else p2)] 3 :: obC (b63 1) [.int .i64 (if x49.to_ < p3 then x49.to_ else p3)] 3 :: obS (α := cal_part) 139 v12 x11 :: yield_Y s28 :: L) := hH67
        obtain ⟨A72, ht73, h74, hH75⟩ := Hp.freezeC (α := Int) (x := (if p2 < x49.from_ then x49.from_ else p2)) hH (i := 0) rfl hA rfl
        replace h_p1 := El.tr h_p1 ht73
        replace h_p2 := El.tr h_p2 ht73
        replace h_p3 := El.tr h_p3 ht73
        replace h5 := Vb.tr h5 ht73
        replace h60 := El.tr h60 ht73
        replace h70 := El.tr h70 ht73
        replace h71 := El.tr h71 ht73
        replace hK := Tr.trans hK ht73
        replace hr21 := Tr.trans hr21 ht73
        replace hr43 := Tr.trans hr43 ht73
        replace hB := Nat.le_trans hB ht73.ex.size
        replace hA := ht73.new
        replace hH : Hp B A72 w65 (obC (b63 1) [.int .i64 (if x49.to_ < p3 then x49.to_ else p3)] 3 :: obS (α := cal_part) 139 v12 x11 :: yield_Y s28 :: L) := hH75
        obtain ⟨A76, ht77, h78, hH79⟩ := Hp.freezeC (α := Int) (x := (if x49.to_ < p3 then x49.to_ else p3)) hH (i := 0) rfl hA rfl
        replace h_p1 := El.tr h_p1 ht77
        replace h_p2 := El.tr h_p2 ht77
        replace h_p3 := El.tr h_p3 ht77
        replace h5 := Vb.tr h5 ht77
        replace h60 := El.tr h60 ht77
        replace h70 := El.tr h70 ht77
        replace h71 := El.tr h71 ht77
        replace h74 := El.tr h74 ht77
        replace hK := Tr.trans hK ht77
        replace hr21 := Tr.trans hr21 ht77
        replace hr43 := Tr.trans hr43 ht77
        replace hB := Nat.le_trans hB ht77.ex.size
        replace hA := ht77.new
        replace hH : Hp B A76 w65 (obS (α := cal_part) 139 v12 x11 :: yield_Y s28 :: L) := hH79
        refine C_at (n := ⟨52, [], none⟩) (fun _ _ => rfl) ?_ ha69
        refine C_seq ?_
        refine C_region ?_
        refine V_y (Y_makeFunc rfl rfl) rfl rfl rfl ?_
        refine V_y (Y_assign rfl) rfl rfl rfl ?_
        refine V_to (fun _ _ => rfl) ?_
        refine C_seq ?_
        refine C_seq ?_
        refine C_region ?_
        refine V_y (Y_load (El.int h74) Try.isAgg3 rfl) rfl rfl rfl ?_
        refine V_y (Y_load (El.int h78) Try.isAgg3 rfl) rfl rfl rfl ?_
        refine V_y (Y_geq rfl rfl) rfl rfl rfl ?_
        refine V_to (fun _ _ => rfl) ?_
        refine C_cond rfl (fun hc80 => ?_) (fun hc80 => ?_)
        · rw [if_pos hc80] at ho41
          obtain rfl := Option.some.inj ho41
          refine C_exit (fun a ha81 => ?_)
          exact ⟨(s28, A76), ha81.sub ⟨rfl, rfl, rfl, rfl, rfl, rfl, rfl, trivial⟩, ⟨rfl, hH, hr43⟩⟩
        · rw [if_neg (nt hc80)] at ho41
          refine C_skip_to (fun _ _ => rfl) ?_
          refine C_seq ?_
          refine C_region ?_
          refine V_y (Y_load (El.int h74) Try.isAgg3 rfl) rfl rfl rfl ?_
          have h82 := El_cal_part_2 h60
          refine V_y (Y_fieldAddr Try.underlying139 rfl Try.sizeOf3 (by decide) rfl) rfl rfl rfl ?_
          refine V_y (Y_load (El.int h82) Try.isAgg3 rfl) rfl rfl rfl ?_
          refine V_y (Y_addI rfl rfl) rfl rfl rfl ?_
          obtain ⟨x83, hx83, ho41⟩ := Option.bind_eq_some_iff.1 ho41
          refine V_call Try.call109 rfl rfl rfl rfl (cal_floor_c w65 (w64 ((if p2 < x49.from_ then x49.from_ else p2) + x49.offset)) 1440 hx83) ?_
          rintro _ _ ⟨rfl, rfl⟩
          refine V_y (Y_subI rfl rfl) rfl rfl rfl ?_
          refine V_y (Y_assign rfl) rfl rfl rfl ?_
          refine V_to (fun _ _ => rfl) ?_
          obtain ⟨o84, ho84, ho41⟩ := Option.bind_eq_some_iff.1 ho41
          refine C_cutG (ι := ((Int × yield_S) × (Nat → Prop))) (fun ⟨s85, A91⟩ => [(1, .pointer (some ⟨b_p1, 0, none⟩)), (2, .pointer (some ⟨b_p2, 0, none⟩)), (3, .pointer (some ⟨b_p3, 0, none⟩)), (4, .pointer (some ⟨b1, 0, none⟩)), (13, v12), (14, .int .i64 (x11.length : Int)), (15, .int .i64 (k22 : Int))]) (fun ⟨s85, A91⟩ => fun w' => o84 = .fin s85 ∧ Hp B A91 w' (obS (α := cal_part) 139 v12 x11 :: yield_Y s85.2 :: L) ∧ Tr B A76 w65 A91 w') ?_ ?_
          · refine C_block ?_
            refine C_while ho84 (fun s93 a w' => ∃ i : (Nat → Prop), Has ⟨52, [], none⟩ a ([(1, .pointer (some ⟨b_p1, 0, none⟩)), (2, .pointer (some ⟨b_p2, 0, none⟩)), (3, .pointer (some ⟨b_p3, 0, none⟩)), (4, .pointer (some ⟨b1, 0, none⟩)), (6, .pointer (some ⟨b55, 0, none⟩)), (8, .pointer (some ⟨(b63 1), 0, none⟩)), (9, .func (.func 107) #[] #[.pointer (some ⟨b_p1, 0, none⟩), .pointer (some ⟨b55, 0, none⟩), .pointer (some ⟨(b63 0), 0, none⟩), .pointer (some ⟨(b63 1), 0, none⟩), .pointer (some ⟨b1, 0, none⟩)]), (10, .int .i64 s93.1), (13, v12), (14, .int .i64 (x11.length : Int)), (15, .int .i64 (k22 : Int))]) ∧ Hp B i w' (obS (α := cal_part) 139 v12 x11 :: yield_Y s93.2 :: L) ∧ Tr B A76 w65 i w') (fun a ha => ⟨A76, ha.sub ⟨rfl, rfl, rfl, rfl, rfl, rfl, rfl, rfl, rfl, rfl, rfl, trivial⟩, ⟨hH, Tr.refl hA⟩⟩) ?_
            rintro K s93 a w94 ⟨A95, ha115, hH96, hr86⟩ K103
            refine C_of ?_ ha115
            replace h_p1 := El.tr h_p1 hr86
            replace h_p2 := El.tr h_p2 hr86
            replace h_p3 := El.tr h_p3 hr86
            replace h5 := Vb.tr h5 hr86
            replace h60 := El.tr h60 hr86
            replace h78 := El.tr h78 hr86
            replace h74 := El.tr h74 hr86
            replace hK := Tr.trans hK hr86
            replace hr21 := Tr.trans hr21 hr86
            replace hr43 := Tr.trans hr43 hr86
            replace hB := Nat.le_trans hB hr86.ex.size
            replace hA := hr86.new
            replace hH : Hp B A95 w94 (obS (α := cal_part) 139 v12 x11 :: yield_Y s93.2 :: L) := hH96
            obtain ⟨x97, h98, h99⟩ := K103
            refine C_seq ?_
            refine C_seq ?_
            refine C_region ?_
            refine V_y (Y_move rfl) rfl rfl rfl ?_
            refine V_y (Y_load (El.int h78) Try.isAgg3 rfl) rfl rfl rfl ?_
            refine V_y (Y_subI rfl rfl) rfl rfl rfl ?_
            have h104 := El_cal_part_2 h60
            refine V_y (Y_fieldAddr Try.underlying139 rfl Try.sizeOf3 (by decide) rfl) rfl rfl rfl ?_
            refine V_y (Y_load (El.int h104) Try.isAgg3 rfl) rfl rfl rfl ?_
            refine V_y (Y_addI rfl rfl) rfl rfl rfl ?_
            obtain ⟨x105, hx105, h98⟩ := Option.bind_eq_some_iff.1 h98
            refine V_call Try.call109 rfl rfl rfl rfl (cal_floor_c w94 (w64 ((w64 ((if x49.to_ < p3 then x49.to_ else p3) - 1)) + x49.offset)) 1440 hx105) ?_
            rintro _ _ ⟨rfl, rfl⟩
            refine V_y (Y_leq rfl rfl) rfl rfl rfl ?_
            refine V_to (fun _ _ => rfl) ?_
            refine C_cond rfl (fun hc106 => ?_) (fun hc106 => ?_)
            · rw [if_pos hc106] at h98
              refine C_skip_to (fun _ _ => rfl) ?_
              refine C_seq ?_
              refine C_block ?_
              refine C_seq ?_
              refine C_region ?_
              refine V_y (Y_move rfl) rfl rfl rfl ?_
              refine V_y (Y_move rfl) rfl rfl rfl ?_
              replace hH : Hp B A95 w94 (yield_Y s93.2 :: obS (α := cal_part) 139 v12 x11 :: L) := Hp.front hH (i := 1) rfl
              obtain ⟨x107, hx107, h98⟩ := Option.bind_eq_some_iff.1 h98
              refine V_call Try.call107 rfl rfl rfl rfl (cal_Calendar_shifts_1_1_c w94 hB hA s93.1 p1 b_p1 h_p1 x49 b55 h60 (if p2 < x49.from_ then x49.from_ else p2) (b63 0) h74 (if x49.to_ < p3 then x49.to_ else p3) (b63 1) h78 yield yield_Y yield_v yield_one s93.2 (fun w2 A2 L2 x2 z2 b2 z3 h1 h2 h3 => yield_spec w2 A2 L2 x2 z2 b2 z3 h1 h2 (Tr.trans hK h3)) b1 h5 hH hx107) ?_
              rintro _ w108 ⟨A109, rfl, hH110, ht111⟩
              replace h_p1 := El.tr h_p1 ht111
              replace h_p2 := El.tr h_p2 ht111
              replace h_p3 := El.tr h_p3 ht111
              replace h5 := Vb.tr h5 ht111
              replace h60 := El.tr h60 ht111
              replace h78 := El.tr h78 ht111
              replace h74 := El.tr h74 ht111
              replace hK := Tr.trans hK ht111
              replace hr21 := Tr.trans hr21 ht111
              replace hr43 := Tr.trans hr43 ht111
              replace hr86 := Tr.trans hr86 ht111
              replace hB := Nat.le_trans hB ht111.ex.size
              replace hA := ht111.new
              replace hH : Hp B A109 w108 (yield_Y x107.2 :: obS (α := cal_part) 139 v12 x11 :: L) := hH110
              refine V_y (Y_not rfl) rfl rfl rfl ?_
              refine V_to (fun _ _ => rfl) ?_
              refine C_cond rfl (fun hc112 => ?_) (fun hc112 => ?_)
              · rw [if_pos hc112] at h98
                obtain rfl := Option.some.inj h98
                obtain rfl := (h99 : Lp.rt _ = _)
                rw [Lp.andThen_rt] at ho41
                obtain rfl := Option.some.inj ho41
                rw [Lp.andThen_rt] at h33
                obtain rfl := Option.some.inj h33
                obtain rfl := (h34 : Lp.rt _ = _)
                rw [Lp.andThen_rt] at hm
                obtain rfl := Option.some.inj hm
                replace hH : Hp B A109 w108 (yield_Y x107.2 :: L) := Hp.drop hH (i := 1) rfl
                refine C_ret ?_
                try simp only [↓inBlock_ret, ↓then_ret]
                exact retQ rfl (Res.zero Try.results105) ⟨A109, rfl, hH, hK⟩
              · rw [if_neg (nt hc112)] at h98
                refine C_skip_to (fun _ _ => rfl) ?_
                refine C_region ?_
                refine V_y (Y_move rfl) rfl rfl rfl ?_
                refine V_y (Y_addI rfl rfl) rfl rfl rfl ?_
                refine V_y (Y_assign rfl) rfl rfl rfl ?_
                obtain rfl := Option.some.inj h98
                refine V_end (fun a ha113 => ?_)
                replace hH : Hp B A109 w108 (obS (α := cal_part) 139 v12 x11 :: yield_Y x107.2 :: L) := Hp.front hH (i := 1) rfl
                exact ⟨(w64 (s93.1 + 1), x107.2), h99, ⟨A109, ha113.sub ⟨rfl, rfl, rfl, rfl, rfl, rfl, rfl, rfl, rfl, rfl, rfl, trivial⟩, ⟨hH, hr86⟩⟩⟩
            · rw [if_neg (nt hc106)] at h98
              obtain rfl := Option.some.inj h98
              refine C_exit (fun a ha114 => ?_)
              exact ⟨((s93.1, s93.2), A95), ha114.sub ⟨rfl, rfl, rfl, rfl, rfl, rfl, rfl, trivial⟩, ⟨h99.symm, hH, hr86⟩⟩
          rintro ⟨s85, A91⟩ w88 ⟨rfl, hH92, hk89⟩ a ha90
          rw [Lp.andThen_fin] at ho41
          replace h_p1 := El.tr h_p1 hk89
          replace h_p2 := El.tr h_p2 hk89
          replace h_p3 := El.tr h_p3 hk89
          replace h5 := Vb.tr h5 hk89
          replace hK := Tr.trans hK hk89
          replace hr21 := Tr.trans hr21 hk89
          replace hr43 := Tr.trans hr43 hk89
          replace hB := Nat.le_trans hB hk89.ex.size
          replace hA := hk89.new
          replace hH : Hp B A91 w88 (obS (α := cal_part) 139 v12 x11 :: yield_Y s85.2 :: L) := hH92
          obtain rfl := Option.some.inj ho41
          exact ⟨(s85.2, A91), ha90.sub ⟨rfl, rfl, rfl, rfl, rfl, rfl, rfl, trivial⟩, ⟨rfl, hH, hr43⟩⟩
      rintro ⟨s42, A47⟩ w44 ⟨rfl, hH48, hk45⟩ a ha46
      rw [Lp.andThen_fin] at h33
      replace h_p1 := El.tr h_p1 hk45
      replace h_p2 := El.tr h_p2 hk45
      replace h_p3 := El.tr h_p3 hk45
      replace h5 := Vb.tr h5 hk45
      replace hK := Tr.trans hK hk45
      replace hr21 := Tr.trans hr21 hk45
      replace hB := Nat.le_trans hB hk45.ex.size
      replace hA := hk45.new
      replace hH : Hp B A47 w44 (obS (α := cal_part) 139 v12 x11 :: yield_Y s42 :: L) := hH48
      refine C_at (n := ⟨52, [], none⟩) (fun _ _ => rfl) ?_ ha46
      refine C_region ?_
      refine V_y (Y_addI rfl rfl) rfl rfl rfl ?_
      refine V_y (Y_move rfl) rfl rfl rfl ?_
      obtain rfl := Option.some.inj h33
      refine V_end (fun a ha117 => ?_)
      exact ⟨s42, hlt36, h34, ⟨A47, ha117.sub ⟨rfl, rfl, rfl, rfl, rfl, rfl, (congrArg (fun z => some (Value.int .i64 z)) (w64_succ hlt36 hn39)), trivial⟩, ⟨hH, hr21⟩⟩⟩
    · refine C_exit (fun a ha118 => ?_)
      exact ⟨(s28, A30), ha118.sub trivial, ⟨(h37 (eq_of_dec hle35 hc40)).symm, hH, hr21⟩⟩
  rintro ⟨s20, A26⟩ w23 ⟨rfl, hH27, hk24⟩ a ha25
  rw [Lp.andThen_fin] at hm
  replace hK := Tr.trans hK hk24
  replace hB := Nat.le_trans hB hk24.ex.size
  replace hA := hk24.new
  replace hH : Hp B A26 w23 (obS (α := cal_part) 139 v12 x11 :: yield_Y s20 :: L) := hH27
  obtain rfl := Option.some.inj hm
  replace hH : Hp B A26 w23 (yield_Y s20 :: obS (α := cal_part) 139 v12 x11 :: L) := Hp.front hH (i := 1) rfl
  replace hH : Hp B A26 w23 (yield_Y s20 :: L) := Hp.drop hH (i := 1) rfl
  try simp only [↓inBlock_ret, ↓then_ret]
  exact normQ (retQ rfl (Res.zero Try.results105) ⟨A26, rfl, hH, hK⟩ a ha25)

set_option maxRecDepth 4000 in
set_option maxHeartbeats 4000000 in
theorem cal_Calendar_open_1_c (w : World) {A : Nat → Prop} {B : Nat} (hB : B ≤ w.heap.size) (hA : ∀ b, w.heap.size ≤ b → A b) {yield_S : Type} (yield : cal_Span → yield_S → Option (Bool × yield_S)) (yield_Y : yield_S → Ob) (yield_v : Value) (yield_one : yield_v.cells.toList = [yield_v]) (yield_s : yield_S) (yield_spec : ∀ (w2 : World) (A2 : Nat → Prop) (L2 : List Ob) (x : cal_Span) (z : yield_S) (b : Bool) (z2 : yield_S), B ≤ w2.heap.size → (∀ b, w2.heap.size ≤ b → A2 b) → Tr B A w A2 w2 → Hp B A2 w2 (yield_Y z :: L2) → yield x z = some (b, z2) → CallV Try.prog yield_v [.agg #[.int .i64 x.from_, .int .i64 x.to_]] w2 fun v w3 => v = .bool b ∧ ∃ A3, Tr B A2 w2 A3 w3 ∧ Hp B A3 w3 (yield_Y z2 :: L2)) (p1 : cal_Calendar) (b_p1 : Nat) (h_p1 : El A w b_p1 0 p1) (p2 : Int) (b_p2 : Nat) (h_p2 : El A w b_p2 0 p2) (p3 : Int) (b_p3 : Nat) (h_p3 : El A w b_p3 0 p3) {L : List Ob} (hH : Hp B A w (yield_Y yield_s :: L)) {r : yield_S} (hm : cal_Calendar_open_1 yield yield_s p1 p2 p3 = some r) : Ret Try.prog 87 #[yield_v, .pointer (some ⟨b_p1, 0, none⟩), .pointer (some ⟨b_p2, 0, none⟩), .pointer (some ⟨b_p3, 0, none⟩)] w fun v w' => ∃ A1 : Nat → Prop, v = .tuple #[] ∧ Hp B A1 w' (yield_Y r :: L) ∧ Tr B A w A1 w' := by
  unfold cal_Calendar_open_1 at hm
  refine enterM Try.func87 rfl Try.ntmps87 rfl ?_
  have hK : Tr B A w A w := Tr.refl hA
  refine C_seq ?_
  refine C_region ?_
  refine V_box rfl rfl ?_
  intro b1 w2 h3
  have hk4 := h3.kp
  have h5 : Vb A w2 b1 yield_v := h3.vb hA yield_one
  have ht6 := Kp.tr hk4 hA hB
  replace hH := Hp.kp hH hk4
  replace h_p1 := El.tr h_p1 ht6
  replace h_p2 := El.tr h_p2 ht6
  replace h_p3 := El.tr h_p3 ht6
  replace hK := Tr.trans hK ht6
  replace hB := Nat.le_trans hB ht6.ex.size
  replace hA := ht6.new
  refine V_to (fun _ _ => rfl) ?_
  refine C_seq ?_
  refine C_region ?_
  refine V_y (Y_build Try.underlying48 Try.zeroValue48 (Try_places48 _ Try.underlying48) rfl (by with_unfolding_all rfl)) rfl rfl rfl ?_
  refine V_allocH (B := B) hH Try.zeroValue48 hB hA rfl ?_
  intro b7 w9 A10 hH11 ht12
  replace h_p1 := El.tr h_p1 ht12
  replace h_p2 := El.tr h_p2 ht12
  replace h_p3 := El.tr h_p3 ht12
  replace h5 := Vb.tr h5 ht12
  replace hK := Tr.trans hK ht12
  replace hB := Nat.le_trans hB ht12.ex.size
  replace hA := ht12.new
  replace hH : Hp B A10 w9 (obC b7 [.int .i64 0, .int .i64 0] 48 :: yield_Y yield_s :: L) := hH11
  refine V_storeC (off := 0) (ds := [.int .i64 (-1), .int .i64 (-1)]) hH (i := 0) rfl Try.sizeOf48 rfl (Nat.le_of_ble_eq_true rfl) (by simp [Value.cells, Value.oneCell']) rfl hB hA rfl rfl ?_
  intro w13 hH14 ht15
  replace h_p1 := El.tr h_p1 ht15
  replace h_p2 := El.tr h_p2 ht15
  replace h_p3 := El.tr h_p3 ht15
  replace h5 := Vb.tr h5 ht15
  replace hK := Tr.trans hK ht15
  replace hB := Nat.le_trans hB ht15.ex.size
  replace hA := ht15.new
  replace hH : Hp B A10 w13 (obC b7 [.int .i64 (-1), .int .i64 (-1)] 48 :: yield_Y yield_s :: L) := hH14
  refine V_to (fun _ _ => rfl) ?_
  refine C_seq ?_
  refine C_seq ?_
  refine C_region ?_
  obtain ⟨v16, v18, v20, h22, h17, h19, h21⟩ := El_cal_Calendar h_p1
  refine V_y (Y_loadA h22 Try.isAgg28 Try.sizeOf28 rfl) rfl rfl rfl ?_
  refine V_y (Y_load (El.int h_p2) Try.isAgg3 rfl) rfl rfl rfl ?_
  refine V_y (Y_load (El.int h_p3) Try.isAgg3 rfl) rfl rfl rfl ?_
  obtain ⟨x23, hx23, hm⟩ := Option.bind_eq_some_iff.1 hm
  refine V_call Try.call88 rfl rfl rfl rfl (cal_Calendar_shifts_c w13 hA p1 v16 h17 v18 h19 v20 h21 p2 p3 hx23) ?_
  rintro _ w30 ⟨b24, b26, b28, rfl, h25, h27, h29, hk31⟩
  have ht32 := Kp.tr hk31 hA hB
  replace hH := Hp.kp hH hk31
  replace h_p1 := El.tr h_p1 ht32
  replace h_p2 := El.tr h_p2 ht32
  replace h_p3 := El.tr h_p3 ht32
  replace h5 := Vb.tr h5 ht32
  replace h17 := Sl.tr h17 ht32
  replace h19 := Sl.tr h19 ht32
  replace h21 := Sl.tr h21 ht32
  replace hK := Tr.trans hK ht32
  replace hB := Nat.le_trans hB ht32.ex.size
  replace hA := ht32.new
  refine V_to (fun _ _ => rfl) ?_
  have hH37 : Hp B A10 w30 ((fun (s34 : (cal_Span × yield_S)) => obE (fun (i : Unit) => [obC b7 [.int .i64 s34.1.from_, .int .i64 s34.1.to_] 48, yield_Y s34.2])) ((⟨(-1), (-1)⟩ : cal_Span), yield_s) :: L) := Hp.pack (F := fun (i : Unit) => [obC b7 [.int .i64 ((⟨(-1), (-1)⟩ : cal_Span), yield_s).1.from_, .int .i64 ((⟨(-1), (-1)⟩ : cal_Span), yield_s).1.to_] 48, yield_Y ((⟨(-1), (-1)⟩ : cal_Span), yield_s).2]) () hH
  obtain ⟨z33, hz33, hm⟩ := Option.bind_eq_some_iff.1 hm
  refine C_cutN (ι := Nat × (Nat → Prop)) (fun i => ⟨41, [{ target := .collected i.1, args := #[] }], none⟩) (fun i => [(4, .pointer (some ⟨b1, 0, none⟩)), (5, .pointer (some ⟨b7, 0, none⟩))]) (fun i w' => z33.2 ≠ some 0 ∧ Hp B i.2 w' ((fun (s34 : (cal_Span × yield_S)) => obE (fun (i : Unit) => [obC b7 [.int .i64 s34.1.from_, .int .i64 s34.1.to_] 48, yield_Y s34.2])) z33.1 :: obO i.1 (.deferred (some [])) :: L) ∧ Tr B A10 w30 i.2 w') ?_ ?_
  · refine C_block ?_
    refine C_rangeFunc (B := B) (A := A10) (L := L) (X := cal_Span) (fun (x43 : cal_Span) => [.agg #[.int .i64 x43.from_, .int .i64 x43.to_]]) (fun (s34 : (cal_Span × yield_S)) => obE (fun (i : Unit) => [obC b7 [.int .i64 s34.1.from_, .int .i64 s34.1.to_] 48, yield_Y s34.2])) (fun (x43 : cal_Span) (s35 : (cal_Span × yield_S)) => Option.bind (α := Lp _ _) (Option.bind (α := Lp _ _) (Option.bind (α := Lp _ _) (if (decide (s35.1.from_ < 0)) = true then some (.fin (x43, s35.2)) else Option.bind (α := Lp _ _) (if (decide (x43.from_ ≤ s35.1.to_)) = true then some (.fin ((⟨s35.1.from_, (if s35.1.to_ < x43.to_ then x43.to_ else s35.1.to_)⟩ : cal_Span), s35.2)) else Option.bind (yield s35.1 s35.2) fun x110 => if (!x110.1) = true then some (.rt ((s35.1, x110.2), some 0)) else some (.fin (x43, x110.2))) fun o96 => o96.andThen (fun y => some (.rt y)) fun s97 => some (.fin (s97.1, s97.2))) fun o81 => o81.andThen (fun y => some (.rt y)) fun s82 => some (.fin (s82.1, s82.2))) fun o73 => o73.andThen (fun y => some (.rt y)) fun s74 => some (.fin (s74.1, s74.2))) fun o65 => o65.andThen (fun y => some y) fun s66 => some ((s66.1, s66.2), none)) (fun k => if k = 0 then .ret else .exit 0) (s0 := ((⟨(-1), (-1)⟩ : cal_Span), yield_s)) (zf := z33) rfl rfl rfl (by decide) (fun _ => rfl) hB hA hH37 105 _ rfl Try.call105 ?_ ?_ ?_ ?_
    · intro Ys yv w1 A1 L1 h1 h2 h3 h4 h0 h5
      exact (cal_Calendar_shifts_1_c w1 h1 h2 (yieldB (fun (x43 : cal_Span) (s35 : (cal_Span × yield_S)) => Option.bind (α := Lp _ _) (Option.bind (α := Lp _ _) (Option.bind (α := Lp _ _) (if (decide (s35.1.from_ < 0)) = true then some (.fin (x43, s35.2)) else Option.bind (α := Lp _ _) (if (decide (x43.from_ ≤ s35.1.to_)) = true then some (.fin ((⟨s35.1.from_, (if s35.1.to_ < x43.to_ then x43.to_ else s35.1.to_)⟩ : cal_Span), s35.2)) else Option.bind (yield s35.1 s35.2) fun x110 => if (!x110.1) = true then some (.rt ((s35.1, x110.2), some 0)) else some (.fin (x43, x110.2))) fun o96 => o96.andThen (fun y => some (.rt y)) fun s97 => some (.fin (s97.1, s97.2))) fun o81 => o81.andThen (fun y => some (.rt y)) fun s82 => some (.fin (s82.1, s82.2))) fun o73 => o73.andThen (fun y => some (.rt y)) fun s74 => some (.fin (s74.1, s74.2))) fun o65 => o65.andThen (fun y => some y) fun s66 => some ((s66.1, s66.2), none))) Ys yv h0 (((⟨(-1), (-1)⟩ : cal_Span), yield_s), none) h5 x23.1 b24 (El.tr h25 h3) x23.2.1 b26 (El.tr h27 h3) x23.2.2 b28 (El.tr h29 h3) h4 hz33).mono fun _ _ ⟨A3, _, hh, tt⟩ => ⟨A3, tt, hh⟩
    · intro l38 rc39 w40 A41 L42 x43 s35 s36 j44 hst45 hB46 hA47 ht48 hH49 h50
      obtain ⟨_, hH49⟩ := Hp.open hH49
      replace h5 := Vb.tr h5 ht48
      replace h25 := El.tr h25 ht48
      replace h27 := El.tr h27 ht48
      replace h29 := El.tr h29 ht48
      replace hK := Tr.trans hK ht48
      replace hB := Nat.le_trans hB ht48.ex.size
      replace hA := ht48.new
      replace hH : Hp B A41 w40 (obC b7 [.int .i64 s35.1.from_, .int .i64 s35.1.to_] 48 :: yield_Y s35.2 :: obO l38 (.loop rc39) :: L42) := hH49
      have hr51 : Tr B A41 w40 A41 w40 := Tr.refl hA
      show C _ _ _ _ _ _
      refine C_region ?_
      refine V_alloc Try.zeroValue48 rfl ?_
      intro b53 w54 h55
      refine V_storeNew h55 Try.sizeOf48 rfl rfl rfl rfl (by exact (List.forall_mem_cons.2 ⟨rfl, (List.forall_mem_cons.2 ⟨rfl, (fun _ h => nomatch h)⟩)⟩)) ?_
      intro w56 h57
      have hk59 := h57.kp
      have h58 : El (α := cal_Span) A41 w56 b53 0 x43 := h57.el hA ⟨[.int .i64 x43.from_], _, rfl, rfl, rfl⟩
      have ht60 := Kp.tr hk59 hA hB
      replace hH := Hp.kp hH hk59
      replace h5 := Vb.tr h5 ht60
      replace h25 := El.tr h25 ht60
      replace h27 := El.tr h27 ht60
      replace h29 := El.tr h29 ht60
      replace hK := Tr.trans hK ht60
      replace hr51 := Tr.trans hr51 ht60
      replace hB := Nat.le_trans hB ht60.ex.size
      replace hA := ht60.new
      refine V_end (fun a ha61 => ?_)
      refine begin_at hH (i := 2) rfl hst45 hB hA (fun w62 hH63 ht64 => ?_) ha61
      replace h5 := Vb.tr h5 ht64
      replace h58 := El.tr h58 ht64
      replace hK := Tr.trans hK ht64
      replace hr51 := Tr.trans hr51 ht64
      replace hB := Nat.le_trans hB ht64.ex.size
      replace hA := ht64.new
      replace hH : Hp B A41 w62 (obC b7 [.int .i64 s35.1.from_, .int .i64 s35.1.to_] 48 :: yield_Y s35.2 :: obO l38 (.loop { rc39 with state := .busy }) :: L42) := hH63
      obtain ⟨o65, ho65, h50⟩ := Option.bind_eq_some_iff.1 h50
      refine C_cutG (ι := ((cal_Span × yield_S) × (Nat → Prop))) (fun ⟨s66, A71⟩ => []) (fun ⟨s66, A71⟩ => fun w' => o65 = .fin s66 ∧ Hp B A71 w' (obC b7 [.int .i64 s66.1.from_, .int .i64 s66.1.to_] 48 :: yield_Y s66.2 :: obO l38 (.loop { rc39 with state := .busy }) :: L42) ∧ Tr B A41 w62 A71 w') ?_ ?_
      · have hr67 : Tr B A41 w62 A41 w62 := Tr.refl hA
        refine C_block ?_
        obtain ⟨o73, ho73, ho65⟩ := Option.bind_eq_some_iff.1 ho65
        refine C_cutG (ι := ((cal_Span × yield_S) × (Nat → Prop))) (fun ⟨s74, A79⟩ => []) (fun ⟨s74, A79⟩ => fun w' => o73 = .fin s74 ∧ Hp B A79 w' (obC b7 [.int .i64 s74.1.from_, .int .i64 s74.1.to_] 48 :: yield_Y s74.2 :: obO l38 (.loop { rc39 with state := .busy }) :: L42) ∧ Tr B A41 w62 A79 w') ?_ ?_
        · have hr75 : Tr B A41 w62 A41 w62 := Tr.refl hA
          refine C_block ?_
          refine C_seq ?_
          refine C_region ?_
          refine V_y (Y_fieldAddrC (off2 := 0) Try.underlying48 rfl Try.sizeOf3 (by decide) rfl rfl) rfl rfl rfl ?_
          refine V_y (Y_load (Hp.cell (j := 0) hH (i := 0) rfl rfl) Try.isAgg3 rfl) rfl rfl rfl ?_
          refine V_y (Y_lss rfl rfl) rfl rfl rfl ?_
          refine V_y (Y_assign rfl) rfl rfl rfl ?_
          refine V_to (fun _ _ => rfl) ?_
          obtain ⟨o81, ho81, ho73⟩ := Option.bind_eq_some_iff.1 ho73
          refine C_cutG (ι := ((cal_Span × yield_S) × (Nat → Prop))) (fun ⟨s82, A87⟩ => []) (fun ⟨s82, A87⟩ => fun w' => o81 = .fin s82 ∧ Hp B A87 w' (obC b7 [.int .i64 s82.1.from_, .int .i64 s82.1.to_] 48 :: yield_Y s82.2 :: obO l38 (.loop { rc39 with state := .busy }) :: L42) ∧ Tr B A41 w62 A87 w') ?_ ?_
          · have hr83 : Tr B A41 w62 A41 w62 := Tr.refl hA
            refine C_cond rfl (fun hc89 => ?_) (fun hc89 => ?_)
            · rw [if_pos hc89] at ho81
              refine C_region ?_
              obtain ⟨h90, _⟩ := El_cal_Span h58
              refine V_y (Y_loadA h90 Try.isAgg48 Try.sizeOf48 rfl) rfl rfl rfl ?_
              refine V_storeC (off := 0) (ds := [.int .i64 x43.from_, .int .i64 x43.to_]) hH (i := 0) rfl Try.sizeOf48 rfl (Nat.le_of_ble_eq_true rfl) (by simp [Value.cells, Value.oneCell']) rfl hB hA rfl rfl ?_
              intro w91 hH92 ht93
              replace h5 := Vb.tr h5 ht93
              replace h58 := El.tr h58 ht93
              replace hK := Tr.trans hK ht93
              replace hr51 := Tr.trans hr51 ht93
              replace hr67 := Tr.trans hr67 ht93
              replace hr75 := Tr.trans hr75 ht93
              replace hr83 := Tr.trans hr83 ht93
              replace hB := Nat.le_trans hB ht93.ex.size
              replace hA := ht93.new
              replace hH : Hp B A41 w91 (obC b7 [.int .i64 x43.from_, .int .i64 x43.to_] 48 :: yield_Y s35.2 :: obO l38 (.loop { rc39 with state := .busy }) :: L42) := hH92
              obtain rfl := Option.some.inj ho81
              refine V_end (fun a ha94 => ?_)
              exact ⟨((x43, s35.2), A41), ha94.sub trivial, ⟨rfl, hH, hr83⟩⟩
            · rw [if_neg (nt hc89)] at ho81
              refine C_seq ?_
              refine C_region ?_
              have h95 := El_cal_Span_0 h58
              refine V_y (Y_fieldAddr Try.underlying48 rfl Try.sizeOf3 (by decide) rfl) rfl rfl rfl ?_
              refine V_y (Y_load (El.int h95) Try.isAgg3 rfl) rfl rfl rfl ?_
              refine V_y (Y_fieldAddrC (off2 := 1) Try.underlying48 rfl Try.sizeOf3 (by decide) rfl rfl) rfl rfl rfl ?_
              refine V_y (Y_load (Hp.cell (j := 1) hH (i := 0) rfl rfl) Try.isAgg3 rfl) rfl rfl rfl ?_
              refine V_y (Y_leq rfl rfl) rfl rfl rfl ?_
              refine V_y (Y_assign rfl) rfl rfl rfl ?_
              refine V_to (fun _ _ => rfl) ?_
              obtain ⟨o96, ho96, ho81⟩ := Option.bind_eq_some_iff.1 ho81
              refine C_cutG (ι := ((cal_Span × yield_S) × (Nat → Prop))) (fun ⟨s97, A102⟩ => []) (fun ⟨s97, A102⟩ => fun w' => o96 = .fin s97 ∧ Hp B A102 w' (obC b7 [.int .i64 s97.1.from_, .int .i64 s97.1.to_] 48 :: yield_Y s97.2 :: obO l38 (.loop { rc39 with state := .busy }) :: L42) ∧ Tr B A41 w62 A102 w') ?_ ?_
              · have hr98 : Tr B A41 w62 A41 w62 := Tr.refl hA
                refine C_cond rfl (fun hc104 => ?_) (fun hc104 => ?_)
                · rw [if_pos hc104] at ho96
                  refine C_region ?_
                  refine V_y (Y_fieldAddrC (off2 := 1) Try.underlying48 rfl Try.sizeOf3 (by decide) rfl rfl) rfl rfl rfl ?_
                  refine V_y (Y_load (Hp.cell (j := 1) hH (i := 0) rfl rfl) Try.isAgg3 rfl) rfl rfl rfl ?_
                  have h105 := El_cal_Span_1 h58
                  refine V_y (Y_fieldAddr Try.underlying48 rfl Try.sizeOf3 (by decide) rfl) rfl rfl rfl ?_
                  refine V_y (Y_load (El.int h105) Try.isAgg3 rfl) rfl rfl rfl ?_
                  refine V_y (Y_max2 rfl rfl) rfl rfl rfl ?_
                  refine V_y (Y_fieldAddrC (off2 := 1) Try.underlying48 rfl Try.sizeOf3 (by decide) rfl rfl) rfl rfl rfl ?_
                  refine V_storeC (off := 1) (ds := [.int .i64 s35.1.from_, .int .i64 (if s35.1.to_ < x43.to_ then x43.to_ else s35.1.to_)]) hH (i := 0) rfl Try.sizeOf3 rfl (Nat.le_of_ble_eq_true rfl) (by simp [Value.cells, Value.oneCell']) rfl hB hA rfl rfl ?_
                  intro w106 hH107 ht108
                  replace h5 := Vb.tr h5 ht108
                  replace h58 := El.tr h58 ht108
                  replace h105 := El.tr h105 ht108
                  replace hK := Tr.trans hK ht108
                  replace hr51 := Tr.trans hr51 ht108
                  replace hr67 := Tr.trans hr67 ht108
                  replace hr75 := Tr.trans hr75 ht108
                  replace hr83 := Tr.trans hr83 ht108
                  replace hr98 := Tr.trans hr98 ht108
                  replace hB := Nat.le_trans hB ht108.ex.size
                  replace hA := ht108.new
                  replace hH : Hp B A41 w106 (obC b7 [.int .i64 s35.1.from_, .int .i64 (if s35.1.to_ < x43.to_ then x43.to_ else s35.1.to_)] 48 :: yield_Y s35.2 :: obO l38 (.loop { rc39 with state := .busy }) :: L42) := hH107
                  obtain rfl := Option.some.inj ho96
                  refine V_end (fun a ha109 => ?_)
                  exact ⟨(((⟨s35.1.from_, (if s35.1.to_ < x43.to_ then x43.to_ else s35.1.to_)⟩ : cal_Span), s35.2), A41), ha109.sub trivial, ⟨rfl, hH, hr98⟩⟩
                · rw [if_neg (nt hc104)] at ho96
                  refine C_seq ?_
                  refine C_seq ?_
                  refine C_region ?_
                  refine V_y (Y_load h5.2.2 Try.isAgg119 rfl) rfl rfl rfl ?_
                  refine V_y (Y_loadA (Hp.part (off := 0) (n := 2) (ds := [.int .i64 s35.1.from_, .int .i64 s35.1.to_]) hH (i := 0) rfl rfl) Try.isAgg48 Try.sizeOf48 rfl) rfl rfl rfl ?_
                  obtain ⟨x110, hx110, ho96⟩ := Option.bind_eq_some_iff.1 ho96
                  replace hH : Hp B A41 w62 (yield_Y s35.2 :: obC b7 [.int .i64 s35.1.from_, .int .i64 s35.1.to_] 48 :: obO l38 (.loop { rc39 with state := .busy }) :: L42) := Hp.front hH (i := 1) rfl
                  refine V_callV rfl rfl rfl (yield_spec w62 _ _ s35.1 _ x110.1 x110.2 hB hA hK hH hx110) ?_
                  rintro _ w111 ⟨rfl, A112, ht114, hH113⟩
                  replace h5 := Vb.tr h5 ht114
                  replace h58 := El.tr h58 ht114
                  replace hK := Tr.trans hK ht114
                  replace hr51 := Tr.trans hr51 ht114
                  replace hr67 := Tr.trans hr67 ht114
                  replace hr75 := Tr.trans hr75 ht114
                  replace hr83 := Tr.trans hr83 ht114
                  replace hr98 := Tr.trans hr98 ht114
                  replace hB := Nat.le_trans hB ht114.ex.size
                  replace hA := ht114.new
                  replace hH : Hp B A112 w111 (yield_Y x110.2 :: obC b7 [.int .i64 s35.1.from_, .int .i64 s35.1.to_] 48 :: obO l38 (.loop { rc39 with state := .busy }) :: L42) := hH113
                  refine V_y (Y_not rfl) rfl rfl rfl ?_
                  refine V_to (fun _ _ => rfl) ?_
                  refine C_cond rfl (fun hc115 => ?_) (fun hc115 => ?_)
                  · rw [if_pos hc115] at ho96
                    obtain rfl := Option.some.inj ho96
                    rw [Lp.andThen_rt] at ho81
                    obtain rfl := Option.some.inj ho81
                    rw [Lp.andThen_rt] at ho73
                    obtain rfl := Option.some.inj ho73
                    rw [Lp.andThen_rt] at ho65
                    obtain rfl := Option.some.inj ho65
                    rw [Lp.andThen_rt] at h50
                    obtain ⟨rfl, rfl⟩ := Prod.mk.inj (Option.some.inj h50)
                    refine C_ret (fun a ha116 => ?_)
                    replace hH : Hp B A112 w111 (obO l38 (.loop { rc39 with state := .busy }) :: yield_Y x110.2 :: obC b7 [.int .i64 s35.1.from_, .int .i64 s35.1.to_] 48 :: L42) := Hp.front hH (i := 2) rfl
                    replace hH : Hp B A112 w111 (yield_Y x110.2 :: obO l38 (.loop { rc39 with state := .busy }) :: obC b7 [.int .i64 s35.1.from_, .int .i64 s35.1.to_] 48 :: L42) := Hp.front hH (i := 1) rfl
                    replace hH : Hp B A112 w111 (obC b7 [.int .i64 s35.1.from_, .int .i64 s35.1.to_] 48 :: yield_Y x110.2 :: obO l38 (.loop { rc39 with state := .busy }) :: L42) := Hp.front hH (i := 2) rfl
                    exact ⟨rfl, A112, hr51, Hp.pack (F := fun (i : Unit) => [obC b7 [.int .i64 (s35.1, x110.2).1.from_, .int .i64 (s35.1, x110.2).1.to_] 48, yield_Y (s35.1, x110.2).2]) () hH⟩
                  · rw [if_neg (nt hc115)] at ho96
                    refine C_skip_to (fun _ _ => rfl) ?_
                    refine C_region ?_
                    obtain ⟨h117, _⟩ := El_cal_Span h58
                    refine V_y (Y_loadA h117 Try.isAgg48 Try.sizeOf48 rfl) rfl rfl rfl ?_
                    refine V_storeC (off := 0) (ds := [.int .i64 x43.from_, .int .i64 x43.to_]) hH (i := 1) rfl Try.sizeOf48 rfl (Nat.le_of_ble_eq_true rfl) (by simp [Value.cells, Value.oneCell']) rfl hB hA rfl rfl ?_
                    intro w118 hH119 ht120
                    replace h58 := El.tr h58 ht120
                    replace hK := Tr.trans hK ht120
                    replace hr51 := Tr.trans hr51 ht120
                    replace hr67 := Tr.trans hr67 ht120
                    replace hr75 := Tr.trans hr75 ht120
                    replace hr83 := Tr.trans hr83 ht120
                    replace hr98 := Tr.trans hr98 ht120
                    replace hB := Nat.le_trans hB ht120.ex.size
                    replace hA := ht120.new
                    replace hH : Hp B A112 w118 (yield_Y x110.2 :: obC b7 [.int .i64 x43.from_, .int .i64 x43.to_] 48 :: obO l38 (.loop { rc39 with state := .busy }) :: L42) := hH119
                    obtain rfl := Option.some.inj ho96
                    refine V_end (fun a ha121 => ?_)
                    replace hH : Hp B A112 w118 (obO l38 (.loop { rc39 with state := .busy }) :: yield_Y x110.2 :: obC b7 [.int .i64 x43.from_, .int .i64 x43.to_] 48 :: L42) := Hp.front hH (i := 2) rfl
                    replace hH : Hp B A112 w118 (yield_Y x110.2 :: obO l38 (.loop { rc39 with state := .busy }) :: obC b7 [.int .i64 x43.from_, .int .i64 x43.to_] 48 :: L42) := Hp.front hH (i := 1) rfl
                    replace hH : Hp B A112 w118 (obC b7 [.int .i64 x43.from_, .int .i64 x43.to_] 48 :: yield_Y x110.2 :: obO l38 (.loop { rc39 with state := .busy }) :: L42) := Hp.front hH (i := 2) rfl
                    exact ⟨((x43, x110.2), A112), ha121.sub trivial, ⟨rfl, hH, hr98⟩⟩
              rintro ⟨s97, A102⟩ w99 ⟨rfl, hH103, hk100⟩ a ha101
              rw [Lp.andThen_fin] at ho81
              replace hK := Tr.trans hK hk100
              replace hr51 := Tr.trans hr51 hk100
              replace hr67 := Tr.trans hr67 hk100
              replace hr75 := Tr.trans hr75 hk100
              replace hr83 := Tr.trans hr83 hk100
              replace hB := Nat.le_trans hB hk100.ex.size
              replace hA := hk100.new
              replace hH : Hp B A102 w99 (obC b7 [.int .i64 s97.1.from_, .int .i64 s97.1.to_] 48 :: yield_Y s97.2 :: obO l38 (.loop { rc39 with state := .busy }) :: L42) := hH103
              obtain rfl := Option.some.inj ho81
              exact ⟨((s97.1, s97.2), A102), ha101.sub trivial, ⟨rfl, hH, hr83⟩⟩
          rintro ⟨s82, A87⟩ w84 ⟨rfl, hH88, hk85⟩ a ha86
          rw [Lp.andThen_fin] at ho73
          replace hK := Tr.trans hK hk85
          replace hr51 := Tr.trans hr51 hk85
          replace hr67 := Tr.trans hr67 hk85
          replace hr75 := Tr.trans hr75 hk85
          replace hB := Nat.le_trans hB hk85.ex.size
          replace hA := hk85.new
          replace hH : Hp B A87 w84 (obC b7 [.int .i64 s82.1.from_, .int .i64 s82.1.to_] 48 :: yield_Y s82.2 :: obO l38 (.loop { rc39 with state := .busy }) :: L42) := hH88
          obtain rfl := Option.some.inj ho73
          exact ⟨((s82.1, s82.2), A87), ha86.sub trivial, ⟨rfl, hH, hr75⟩⟩
        rintro ⟨s74, A79⟩ w76 ⟨rfl, hH80, hk77⟩ a ha78
        rw [Lp.andThen_fin] at ho65
        replace hK := Tr.trans hK hk77
        replace hr51 := Tr.trans hr51 hk77
        replace hr67 := Tr.trans hr67 hk77
        replace hB := Nat.le_trans hB hk77.ex.size
        replace hA := hk77.new
        replace hH : Hp B A79 w76 (obC b7 [.int .i64 s74.1.from_, .int .i64 s74.1.to_] 48 :: yield_Y s74.2 :: obO l38 (.loop { rc39 with state := .busy }) :: L42) := hH80
        obtain rfl := Option.some.inj ho65
        exact ⟨((s74.1, s74.2), A79), ha78.sub trivial, ⟨rfl, hH, hr67⟩⟩
      rintro ⟨s66, A71⟩ w68 ⟨rfl, hH72, hk69⟩ a ha70
      rw [Lp.andThen_fin] at h50
      replace hK := Tr.trans hK hk69
      replace hr51 := Tr.trans hr51 hk69
      replace hB := Nat.le_trans hB hk69.ex.size
      replace hA := hk69.new
      replace hH : Hp B A71 w68 (obC b7 [.int .i64 s66.1.from_, .int .i64 s66.1.to_] 48 :: yield_Y s66.2 :: obO l38 (.loop { rc39 with state := .busy }) :: L42) := hH72
      obtain ⟨rfl, rfl⟩ := Prod.mk.inj (Option.some.inj h50)
      exact ⟨rfl, A71, hr51, Hp.pack (F := fun (i : Unit) => [obC b7 [.int .i64 (s66.1, s66.2).1.from_, .int .i64 (s66.1, s66.2).1.to_] 48, yield_Y (s66.1, s66.2).2]) () hH⟩
    · intro hc131 D126 w127 A128 ht129 hH130 a ha132
      exact ⟨(D126, A128), ha132.sub ⟨rfl, rfl, trivial⟩, (by rw [hc131]; simp), hH130, ht129⟩
    · intro k133 hc131 D126 w127 A128 ht129 hH130
      by_cases hc134 : k133 = 0
      · subst hc134
        rw [if_pos hc131] at hm
        obtain ⟨_, hH130⟩ := Hp.open hH130
        replace hK := Tr.trans hK ht129
        replace hB := Nat.le_trans hB ht129.ex.size
        replace hA := ht129.new
        replace hH : Hp B A128 w127 (obC b7 [.int .i64 z33.1.1.from_, .int .i64 z33.1.1.to_] 48 :: yield_Y z33.1.2 :: obO D126 (.deferred (some [])) :: L) := hH130
        show C _ _ .ret _ _ _
        obtain rfl := Option.some.inj hm
        have h135 := Hp.obj hH (i := 2) (b := D126) rfl
        obtain ⟨hH136, ht137⟩ := Hp.put (.deferred none) hH (i := 2) (b := D126) rfl hB hA
        replace hK := Tr.trans hK ht137
        replace hB := Nat.le_trans hB ht137.ex.size
        replace hA := ht137.new
        replace hH : Hp B A128 (World.putObj w127 D126 (.deferred none)) (obC b7 [.int .i64 z33.1.1.from_, .int .i64 z33.1.1.to_] 48 :: yield_Y z33.1.2 :: obO D126 (.deferred none) :: L) := hH136
        replace hH : Hp B A128 (World.putObj w127 D126 (.deferred none)) (yield_Y z33.1.2 :: obC b7 [.int .i64 z33.1.1.from_, .int .i64 z33.1.1.to_] 48 :: obO D126 (.deferred none) :: L) := Hp.front hH (i := 1) rfl
        replace hH : Hp B A128 (World.putObj w127 D126 (.deferred none)) (yield_Y z33.1.2 :: obO D126 (.deferred none) :: L) := Hp.drop hH (i := 1) rfl
        replace hH : Hp B A128 (World.putObj w127 D126 (.deferred none)) (yield_Y z33.1.2 :: L) := Hp.drop hH (i := 1) rfl
        refine C_ret ?_
        try simp only [↓inBlock_ret, ↓then_ret]
        exact retM1 rfl h135 (Res.zero Try.results87) ⟨A128, rfl, hH, hK⟩
      · show C _ _ (if k133 = 0 then _ else _) _ _ _
        rw [if_neg hc134]
        refine C_exit fun a ha132 => ?_
        show Exit.inBlock _ _ _ _ _
        rw [Exit.inBlock, if_pos rfl]
        exact ⟨(D126, A128), ha132.sub ⟨rfl, rfl, trivial⟩, (by rw [hc131]; simpa using hc134), hH130, ht129⟩
  rintro ⟨D126, A128⟩ w127 ⟨hc138, hH130, ht129⟩ a ha132
  rw [if_neg hc138] at hm
  obtain ⟨_, hH130⟩ := Hp.open hH130
  replace h5 := Vb.tr h5 ht129
  replace hK := Tr.trans hK ht129
  replace hB := Nat.le_trans hB ht129.ex.size
  replace hA := ht129.new
  replace hH : Hp B A128 w127 (obC b7 [.int .i64 z33.1.1.from_, .int .i64 z33.1.1.to_] 48 :: yield_Y z33.1.2 :: obO D126 (.deferred (some [])) :: L) := hH130
  refine C_at (n := ⟨41, [{ target := .collected D126, args := #[] }], none⟩) (fun _ _ => rfl) ?_ ha132
  refine C_seq ?_
  refine C_region ?_
  refine V_y (Y_fieldAddrC (off2 := 0) Try.underlying48 rfl Try.sizeOf3 (by decide) rfl rfl) rfl rfl rfl ?_
  refine V_y (Y_load (Hp.cell (j := 0) hH (i := 0) rfl rfl) Try.isAgg3 rfl) rfl rfl rfl ?_
  refine V_y (Y_geq rfl rfl) rfl rfl rfl ?_
  refine V_to (fun _ _ => rfl) ?_
  obtain ⟨s140, ho139, hm⟩ := Option.bind_eq_some_iff.1 hm
  refine C_cutG (ι := (Nat → Prop)) (fun (A145 : (Nat → Prop)) => []) (fun (A145 : (Nat → Prop)) => fun w' => Hp B A145 w' (obC b7 [.int .i64 z33.1.1.from_, .int .i64 z33.1.1.to_] 48 :: yield_Y s140 :: obO D126 (.deferred (some [])) :: L) ∧ Tr B A128 w127 A145 w') ?_ ?_
  · have hr141 : Tr B A128 w127 A128 w127 := Tr.refl hA
    refine C_cond rfl (fun hc147 => ?_) (fun hc147 => ?_)
    · rw [if_pos hc147] at ho139
      refine C_region ?_
      refine V_y (Y_load h5.2.2 Try.isAgg119 rfl) rfl rfl rfl ?_
      refine V_y (Y_loadA (Hp.part (off := 0) (n := 2) (ds := [.int .i64 z33.1.1.from_, .int .i64 z33.1.1.to_]) hH (i := 0) rfl rfl) Try.isAgg48 Try.sizeOf48 rfl) rfl rfl rfl ?_
      obtain ⟨x148, hx148, ho139⟩ := Option.bind_eq_some_iff.1 ho139
      replace hH : Hp B A128 w127 (yield_Y z33.1.2 :: obC b7 [.int .i64 z33.1.1.from_, .int .i64 z33.1.1.to_] 48 :: obO D126 (.deferred (some [])) :: L) := Hp.front hH (i := 1) rfl
      refine V_callV rfl rfl rfl (yield_spec w127 _ _ z33.1.1 _ x148.1 x148.2 hB hA hK hH hx148) ?_
      rintro _ w149 ⟨rfl, A150, ht152, hH151⟩
      replace h5 := Vb.tr h5 ht152
      replace hK := Tr.trans hK ht152
      replace hr141 := Tr.trans hr141 ht152
      replace hB := Nat.le_trans hB ht152.ex.size
      replace hA := ht152.new
      replace hH : Hp B A150 w149 (yield_Y x148.2 :: obC b7 [.int .i64 z33.1.1.from_, .int .i64 z33.1.1.to_] 48 :: obO D126 (.deferred (some [])) :: L) := hH151
      obtain rfl := Option.some.inj ho139
      refine V_end (fun a ha153 => ?_)
      replace hH : Hp B A150 w149 (obO D126 (.deferred (some [])) :: yield_Y x148.2 :: obC b7 [.int .i64 z33.1.1.from_, .int .i64 z33.1.1.to_] 48 :: L) := Hp.front hH (i := 2) rfl
      replace hH : Hp B A150 w149 (yield_Y x148.2 :: obO D126 (.deferred (some [])) :: obC b7 [.int .i64 z33.1.1.from_, .int .i64 z33.1.1.to_] 48 :: L) := Hp.front hH (i := 1) rfl
      replace hH : Hp B A150 w149 (obC b7 [.int .i64 z33.1.1.from_, .int .i64 z33.1.1.to_] 48 :: yield_Y x148.2 :: obO D126 (.deferred (some [])) :: L) := Hp.front hH (i := 2) rfl
      exact ⟨A150, ha153.sub trivial, ⟨hH, hr141⟩⟩
    · rw [if_neg (nt hc147)] at ho139
      obtain rfl := Option.some.inj ho139
      refine C_skip (fun a ha154 => ?_)
      exact ⟨A128, ha154.sub trivial, ⟨hH, hr141⟩⟩
  rintro A145 w142 ⟨hH146, hk143⟩ a ha144
  replace hK := Tr.trans hK hk143
  replace hB := Nat.le_trans hB hk143.ex.size
  replace hA := hk143.new
  replace hH : Hp B A145 w142 (obC b7 [.int .i64 z33.1.1.from_, .int .i64 z33.1.1.to_] 48 :: yield_Y s140 :: obO D126 (.deferred (some [])) :: L) := hH146
  obtain rfl := Option.some.inj hm
  have h156 := Hp.obj hH (i := 2) (b := D126) rfl
  obtain ⟨hH157, ht158⟩ := Hp.put (.deferred none) hH (i := 2) (b := D126) rfl hB hA
  replace hK := Tr.trans hK ht158
  replace hB := Nat.le_trans hB ht158.ex.size
  replace hA := ht158.new
  replace hH : Hp B A145 (World.putObj w142 D126 (.deferred none)) (obC b7 [.int .i64 z33.1.1.from_, .int .i64 z33.1.1.to_] 48 :: yield_Y s140 :: obO D126 (.deferred none) :: L) := hH157
  replace hH : Hp B A145 (World.putObj w142 D126 (.deferred none)) (yield_Y s140 :: obC b7 [.int .i64 z33.1.1.from_, .int .i64 z33.1.1.to_] 48 :: obO D126 (.deferred none) :: L) := Hp.front hH (i := 1) rfl
  replace hH : Hp B A145 (World.putObj w142 D126 (.deferred none)) (yield_Y s140 :: obO D126 (.deferred none) :: L) := Hp.drop hH (i := 1) rfl
  replace hH : Hp B A145 (World.putObj w142 D126 (.deferred none)) (yield_Y s140 :: L) := Hp.drop hH (i := 1) rfl
  try simp only [↓inBlock_ret, ↓then_ret]
  exact normM (retM1 rfl h156 (Res.zero Try.results87) ⟨A145, rfl, hH, hK⟩ a ha144)

end Go.Proofs.Ytpfoimbklbkcpaa.W
