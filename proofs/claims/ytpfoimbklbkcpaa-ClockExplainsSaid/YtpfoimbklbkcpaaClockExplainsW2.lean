/-
  Written by program (gen.py) from the IR of the dump: each function computes its model.
-/
import Derived.Test.YtpfoimbklbkcpaaClockExplainsW1
namespace Go.Proofs.Ytpfoimbklbkcpaa.W
open Go Go.RowKit Go.Pu Go.Gw Go.Proofs Go.Proofs.Ytpfoimbklbkcpaa.M
set_option linter.unusedVariables false
set_option linter.unusedSimpArgs false

set_option maxRecDepth 4000 in
set_option maxHeartbeats 4000000 in
theorem cal_Spans_c (w : World) {A : Nat → Prop} (hA : ∀ b, w.heap.size ≤ b → A b) (c : cal_Calendar) (v_c0 : Value) (h_c0 : Sl A w v_c0 c.zone.changes) (v_c1 : Value) (h_c1 : Sl A w v_c1 c.week) (v_c2 : Value) (h_c2 : Sl A w v_c2 c.specials) (from_ : Int) (to_ : Int) {r : ((List cal_Span) × Int)} (hm : cal_Spans c from_ to_ = some r) : Ret Try.prog 47 #[.agg #[.int .i64 c.zone.offset, v_c0, v_c1, v_c2], .int .i64 from_, .int .i64 to_] w fun v w' => ∃ s0, v = .tuple #[s0, .int .i64 r.2] ∧ Ownd 48 w w' s0 r.1 ∧ Kp w w' := by
  unfold cal_Spans at hm
  refine enterM Try.func47 rfl Try.ntmps47 rfl ?_
  have hA0 := hA
  have hB := Nat.le_refl w.heap.size
  have hK : Tr w.heap.size A w A w := Tr.refl hA
  have hH : Hp w.heap.size A w [] := Hp.nil
  refine C_seq ?_
  refine C_region ?_
  refine V_box rfl rfl ?_
  intro b7 w9 h10
  have hk12 := h10.kp
  have h11 : El (α := cal_Calendar) A w9 b7 0 c := h10.el hA ⟨[.int .i64 c.zone.offset, v_c0], _, rfl, ⟨[.int .i64 c.zone.offset], _, rfl, rfl, ⟨_, rfl, h_c0⟩⟩, ⟨[v_c1], _, rfl, ⟨_, rfl, h_c1⟩, ⟨_, rfl, h_c2⟩⟩⟩
  have ht13 := Kp.tr hk12 hA hB
  replace hH := Hp.kp hH hk12
  replace h_c0 := Sl.tr h_c0 ht13
  replace h_c1 := Sl.tr h_c1 ht13
  replace h_c2 := Sl.tr h_c2 ht13
  replace hK := Tr.trans hK ht13
  replace hB := Nat.le_trans hB ht13.ex.size
  replace hA := ht13.new
  refine V_y (Y_assign rfl) rfl rfl rfl ?_
  refine V_y (Y_assign rfl) rfl rfl rfl ?_
  refine V_to (fun _ _ => rfl) ?_
  refine C_seq ?_
  refine C_seq ?_
  refine C_region ?_
  obtain ⟨v14, v16, v18, h20, h15, h17, h19⟩ := El_cal_Calendar h11
  refine V_y (Y_loadA h20 Try.isAgg28 Try.sizeOf28 rfl) rfl rfl rfl ?_
  obtain ⟨x21, hx21, hm⟩ := Option.bind_eq_some_iff.1 hm
  refine V_call Try.call29 rfl rfl rfl rfl (cal_CheckCalendar_c w9 hA c v14 h15 v16 h17 v18 h19 hx21) ?_
  rintro _ w22 ⟨rfl, hk23⟩
  have ht24 := Kp.tr hk23 hA hB
  replace hH := Hp.kp hH hk23
  replace h11 := El.tr h11 ht24
  replace h15 := Sl.tr h15 ht24
  replace h17 := Sl.tr h17 ht24
  replace h19 := Sl.tr h19 ht24
  replace hK := Tr.trans hK ht24
  replace hB := Nat.le_trans hB ht24.ex.size
  replace hA := ht24.new
  refine V_y (Y_move rfl) rfl rfl rfl ?_
  refine V_y (Y_move rfl) rfl rfl rfl ?_
  refine V_call Try.call74 rfl rfl rfl rfl (cal_stretch_c w22 from_ to_) ?_
  rintro _ _ ⟨rfl, rfl⟩
  refine V_buildSlice (l := ([x21, (cal_stretch from_ to_)] : List Int)) (len := 2) Try.underlying94 Try.sizeOf29 Try.zeroValue29 rfl (by with_unfolding_all rfl) (by decide) (by decide) hA ⟨[.int .i64 x21], _, rfl, rfl, ⟨[.int .i64 (cal_stretch from_ to_)], _, rfl, rfl, rfl⟩⟩ rfl rfl ?_
  intro v25 w26 hk28 h27
  have ht29 := Kp.tr hk28 hA hB
  replace hH := Hp.kp hH hk28
  replace h11 := El.tr h11 ht29
  replace h15 := Sl.tr h15 ht29
  replace h17 := Sl.tr h17 ht29
  replace h19 := Sl.tr h19 ht29
  replace hK := Tr.trans hK ht29
  replace hB := Nat.le_trans hB ht29.ex.size
  replace hA := ht29.new
  obtain ⟨x30, hx30, hm⟩ := Option.bind_eq_some_iff.1 hm
  refine V_call Try.call36 rfl rfl rfl rfl (cmp_Or_api_Errno_c w26 ([x21, (cal_stretch from_ to_)] : List Int) v25 h27 hx30) ?_
  rintro _ _ ⟨rfl, rfl⟩
  refine V_y (Y_assign rfl) rfl rfl rfl ?_
  refine V_to (fun _ _ => rfl) ?_
  refine C_seq ?_
  refine C_region ?_
  refine V_y (Y_move rfl) rfl rfl rfl ?_
  refine V_y (Y_neq rfl rfl) rfl rfl rfl ?_
  refine V_to (fun _ _ => rfl) ?_
  refine C_cond rfl (fun hc31 => ?_) (fun hc31 => ?_)
  · rw [if_pos hc31] at hm
    refine C_seq ?_
    refine C_region ?_
    refine V_y (Y_move rfl) rfl rfl rfl ?_
    refine V_y (Y_assign rfl) rfl rfl rfl ?_
    refine V_y (Y_assign rfl) rfl rfl rfl ?_
    refine V_to (fun _ _ => rfl) ?_
    obtain rfl := Option.some.inj hm
    replace hH : Hp w.heap.size A w26 (obS (α := cal_Span) 48 (.slice none 0 0) ([] : (List cal_Span)) :: []) := Hp.addNil (α := cal_Span) (e := 48) hH
    refine C_ret ?_
    try simp only [↓inBlock_ret, ↓then_ret]
    exact retM rfl (Res.two Try.results47 rfl rfl) ⟨.slice none 0 0, rfl, (Hp.ownd hH (i := 0) rfl), hK.kp⟩
  · rw [if_neg (nt hc31)] at hm
    refine C_skip_to (fun _ _ => rfl) ?_
    refine C_seq ?_
    refine C_region ?_
    refine V_allocH (B := w.heap.size) hH Try.zeroValue76 hB hA rfl ?_
    intro b32 w33 A34 hH35 ht36
    replace h11 := El.tr h11 ht36
    replace hK := Tr.trans hK ht36
    replace hB := Nat.le_trans hB ht36.ex.size
    replace hA := ht36.new
    replace hH : Hp w.heap.size A34 w33 (obC b32 [.slice none 0 0] 76 :: []) := hH35
    refine V_to (fun _ _ => rfl) ?_
    refine C_seq ?_
    refine C_seq ?_
    refine C_region ?_
    obtain ⟨v37, v39, v41, h43, h38, h40, h42⟩ := El_cal_Calendar h11
    refine V_y (Y_loadA h43 Try.isAgg28 Try.sizeOf28 rfl) rfl rfl rfl ?_
    refine V_y (Y_move rfl) rfl rfl rfl ?_
    refine V_y (Y_move rfl) rfl rfl rfl ?_
    obtain ⟨x44, hx44, hm⟩ := Option.bind_eq_some_iff.1 hm
    refine V_call Try.call75 rfl rfl rfl rfl (cal_Calendar_open_c w33 hA c v37 h38 v39 h40 v41 h42 from_ to_ hx44) ?_
    rintro _ w51 ⟨b45, b47, b49, rfl, h46, h48, h50, hk52⟩
    have ht53 := Kp.tr hk52 hA hB
    replace hH := Hp.kp hH hk52
    replace h11 := El.tr h11 ht53
    replace h38 := Sl.tr h38 ht53
    replace h40 := Sl.tr h40 ht53
    replace h42 := Sl.tr h42 ht53
    replace hK := Tr.trans hK ht53
    replace hB := Nat.le_trans hB ht53.ex.size
    replace hA := ht53.new
    refine V_to (fun _ _ => rfl) ?_
    replace hH : Hp w.heap.size A34 w51 (obS (α := cal_Span) 48 (.slice none 0 0) ([] : (List cal_Span)) :: obC b32 [.slice none 0 0] 76 :: []) := Hp.addNil (α := cal_Span) (e := 48) hH
    have hH60 : Hp w.heap.size A34 w51 ((fun (s55 : (List cal_Span)) => obE (fun (i : Value) => [obS (α := cal_Span) 48 i s55, obC b32 [i] 76])) ([] : (List cal_Span)) :: []) := Hp.pack (F := fun (i : Value) => [obS (α := cal_Span) 48 i ([] : (List cal_Span)), obC b32 [i] 76]) (.slice none 0 0) hH
    obtain ⟨z54, hz54, hm⟩ := Option.bind_eq_some_iff.1 hm
    refine C_cutN (ι := Nat × (Nat → Prop)) (fun i => ⟨34, [{ target := .collected i.1, args := #[] }], none⟩) (fun i => [(9, .pointer (some ⟨b32, 0, none⟩))]) (fun i w' => Hp w.heap.size i.2 w' ((fun (s55 : (List cal_Span)) => obE (fun (i : Value) => [obS (α := cal_Span) 48 i s55, obC b32 [i] 76])) z54.1 :: obO i.1 (.deferred (some [])) :: []) ∧ Tr w.heap.size A34 w51 i.2 w') ?_ ?_
    · refine C_block ?_
      refine C_rangeFunc (B := w.heap.size) (A := A34) (L := []) (X := cal_Span) (fun (x66 : cal_Span) => [.agg #[.int .i64 x66.from_, .int .i64 x66.to_]]) (fun (s55 : (List cal_Span)) => obE (fun (i : Value) => [obS (α := cal_Span) 48 i s55, obC b32 [i] 76])) (fun (x66 : cal_Span) (s56 : (List cal_Span)) => Option.bind (appendL 8796093022208 s56 ([x66] : List cal_Span)) fun x95 => some (x95, none)) (fun _ => .exit 0) (s0 := ([] : (List cal_Span))) (zf := z54) rfl rfl rfl (by decide) (fun _ => rfl) hB hA hH60 87 _ rfl Try.call87 ?_ ?_ ?_ ?_
      · intro Ys yv w1 A1 L1 h1 h2 h3 h4 h0 h5
        exact (cal_Calendar_open_1_c w1 h1 h2 (yieldB (fun (x66 : cal_Span) (s56 : (List cal_Span)) => Option.bind (appendL 8796093022208 s56 ([x66] : List cal_Span)) fun x95 => some (x95, none))) Ys yv h0 (([] : (List cal_Span)), none) h5 x44.1 b45 (El.tr h46 h3) x44.2.1 b47 (El.tr h48 h3) x44.2.2 b49 (El.tr h50 h3) h4 hz54).mono fun _ _ ⟨A3, _, hh, tt⟩ => ⟨A3, tt, hh⟩
      · intro l61 rc62 w63 A64 L65 x66 s56 s57 j67 hst68 hB69 hA70 ht71 hH72 h73
        obtain ⟨v74, hH72⟩ := Hp.open hH72
        replace h46 := El.tr h46 ht71
        replace h48 := El.tr h48 ht71
        replace h50 := El.tr h50 ht71
        replace hK := Tr.trans hK ht71
        replace hB := Nat.le_trans hB ht71.ex.size
        replace hA := ht71.new
        replace hH : Hp w.heap.size A64 w63 (obS (α := cal_Span) 48 v74 s56 :: obC b32 [v74] 76 :: obO l61 (.loop rc62) :: L65) := hH72
        have hr76 : Tr w.heap.size A64 w63 A64 w63 := Tr.refl hA
        show C _ _ _ _ _ _
        refine C_region ?_
        refine V_alloc Try.zeroValue48 rfl ?_
        intro b77 w78 h79
        refine V_storeNew h79 Try.sizeOf48 rfl rfl rfl rfl (by exact (List.forall_mem_cons.2 ⟨rfl, (List.forall_mem_cons.2 ⟨rfl, (fun _ h => nomatch h)⟩)⟩)) ?_
        intro w80 h81
        have hk83 := h81.kp
        have h82 : El (α := cal_Span) A64 w80 b77 0 x66 := h81.el hA ⟨[.int .i64 x66.from_], _, rfl, rfl, rfl⟩
        have ht84 := Kp.tr hk83 hA hB
        replace hH := Hp.kp hH hk83
        replace h46 := El.tr h46 ht84
        replace h48 := El.tr h48 ht84
        replace h50 := El.tr h50 ht84
        replace hK := Tr.trans hK ht84
        replace hr76 := Tr.trans hr76 ht84
        replace hB := Nat.le_trans hB ht84.ex.size
        replace hA := ht84.new
        refine V_end (fun a ha85 => ?_)
        refine begin_at hH (i := 2) rfl hst68 hB hA (fun w86 hH87 ht88 => ?_) ha85
        replace h82 := El.tr h82 ht88
        replace hK := Tr.trans hK ht88
        replace hr76 := Tr.trans hr76 ht88
        replace hB := Nat.le_trans hB ht88.ex.size
        replace hA := ht88.new
        replace hH : Hp w.heap.size A64 w86 (obS (α := cal_Span) 48 v74 s56 :: obC b32 [v74] 76 :: obO l61 (.loop { rc62 with state := .busy }) :: L65) := hH87
        refine C_block ?_
        refine C_region ?_
        refine V_y (Y_load (Hp.cell (j := 0) hH (i := 1) rfl rfl) Try.isAgg76 rfl) rfl rfl rfl ?_
        obtain ⟨h89, _⟩ := El_cal_Span h82
        refine V_y (Y_loadA h89 Try.isAgg48 Try.sizeOf48 rfl) rfl rfl rfl ?_
        refine V_buildSlice (l := ([x66] : List cal_Span)) (len := 1) Try.underlying76 Try.sizeOf48 Try.zeroValue48 rfl (by with_unfolding_all rfl) (by decide) (by decide) hA ⟨[.int .i64 x66.from_, .int .i64 x66.to_], _, rfl, ⟨[.int .i64 x66.from_], _, rfl, rfl, rfl⟩, rfl⟩ rfl rfl ?_
        intro v90 w91 hk93 h92
        have ht94 := Kp.tr hk93 hA hB
        replace hH := Hp.kp hH hk93
        replace h82 := El.tr h82 ht94
        replace hK := Tr.trans hK ht94
        replace hr76 := Tr.trans hr76 ht94
        replace hB := Nat.le_trans hB ht94.ex.size
        replace hA := ht94.new
        obtain ⟨x95, hx95, h73⟩ := Option.bind_eq_some_iff.1 h73
        refine V_appendH (e := 48) (v := v74) (l := s56) (ti := Try.t48) (bytes := 16) (lim := 8796093022208) hH (i := 0) rfl h92 hx95 Try.underlying76 Try_info48 rfl rfl rfl rfl (by decide) (by decide) (by decide) hB hA rfl rfl rfl ?_
        intro v96 w97 A98 hH99 ht100
        replace h82 := El.tr h82 ht100
        replace h92 := Sl.tr h92 ht100
        replace hK := Tr.trans hK ht100
        replace hr76 := Tr.trans hr76 ht100
        replace hB := Nat.le_trans hB ht100.ex.size
        replace hA := ht100.new
        replace hH : Hp w.heap.size A98 w97 (obS (α := cal_Span) 48 v96 x95 :: obC b32 [v74] 76 :: obO l61 (.loop { rc62 with state := .busy }) :: L65) := hH99
        have h106 : (v96).oneCell' = true := by obtain ⟨_, _, e, _⟩ := Hp.form (α := cal_Span) (e := 48) (v := v96) (l := x95) hH (i := 0) rfl; rw [e]; rfl
        refine V_storeC (off := 0) (ds := [v96]) hH (i := 1) rfl Try.sizeOf76 (by rw [← Array.length_toList, Value.cells_one h106]; rfl) (Nat.le_of_ble_eq_true rfl) (by intro u hu; rw [Value.cells_one h106] at hu; simp at hu; subst hu; assumption) (by rw [Value.cells_one h106]; rfl) hB hA rfl rfl ?_
        intro w101 hH102 ht103
        replace h82 := El.tr h82 ht103
        replace h92 := Sl.tr h92 ht103
        replace hK := Tr.trans hK ht103
        replace hr76 := Tr.trans hr76 ht103
        replace hB := Nat.le_trans hB ht103.ex.size
        replace hA := ht103.new
        replace hH : Hp w.heap.size A98 w101 (obS (α := cal_Span) 48 v96 x95 :: obC b32 [v96] 76 :: obO l61 (.loop { rc62 with state := .busy }) :: L65) := hH102
        obtain ⟨rfl, rfl⟩ := Prod.mk.inj (Option.some.inj h73)
        refine V_end (fun a ha107 => ?_)
        exact ⟨rfl, A98, hr76, Hp.pack (F := fun (i : Value) => [obS (α := cal_Span) 48 i x95, obC b32 [i] 76]) v96 hH⟩
      · intro hc115 D110 w111 A112 ht113 hH114 a ha116
        exact ⟨(D110, A112), ha116.sub ⟨rfl, trivial⟩, hH114, ht113⟩
      · intro k117 hc115 D110 w111 A112 ht113 hH114
        refine C_exit fun a ha116 => ?_
        show Exit.inBlock _ _ _ _ _
        rw [Exit.inBlock, if_pos rfl]
        exact ⟨(D110, A112), ha116.sub ⟨rfl, trivial⟩, hH114, ht113⟩
    rintro ⟨D110, A112⟩ w111 ⟨hH114, ht113⟩ a ha116
    obtain ⟨v108, hH114⟩ := Hp.open hH114
    replace hK := Tr.trans hK ht113
    replace hB := Nat.le_trans hB ht113.ex.size
    replace hA := ht113.new
    replace hH : Hp w.heap.size A112 w111 (obS (α := cal_Span) 48 v108 z54.1 :: obC b32 [v108] 76 :: obO D110 (.deferred (some [])) :: []) := hH114
    refine C_at (n := ⟨34, [{ target := .collected D110, args := #[] }], none⟩) (fun _ _ => rfl) ?_ ha116
    refine C_seq ?_
    refine C_seq ?_
    refine C_region ?_
    refine V_y (Y_load (Hp.cell (j := 0) hH (i := 1) rfl rfl) Try.isAgg76 rfl) rfl rfl rfl ?_
    refine V_y (Y_lenSl (Hp.any (α := cal_Span) (e := 48) (v := v108) (l := z54.1) hH (i := 0) rfl) rfl Try.underlying76 rfl) rfl rfl rfl ?_
    refine V_y (Y_gtr rfl rfl) rfl rfl rfl ?_
    refine V_to (fun _ _ => rfl) ?_
    refine C_cond rfl (fun hc120 => ?_) (fun hc120 => ?_)
    · rw [if_pos hc120] at hm
      refine C_seq ?_
      refine C_region ?_
      refine V_y (Y_assign rfl) rfl rfl rfl ?_
      refine V_y (Y_assign rfl) rfl rfl rfl ?_
      refine V_to (fun _ _ => rfl) ?_
      obtain rfl := Option.some.inj hm
      have h121 := Hp.obj hH (i := 2) (b := D110) rfl
      obtain ⟨hH122, ht123⟩ := Hp.put (.deferred none) hH (i := 2) (b := D110) rfl hB hA
      replace hK := Tr.trans hK ht123
      replace hB := Nat.le_trans hB ht123.ex.size
      replace hA := ht123.new
      replace hH : Hp w.heap.size A112 (World.putObj w111 D110 (.deferred none)) (obS (α := cal_Span) 48 v108 z54.1 :: obC b32 [v108] 76 :: obO D110 (.deferred none) :: []) := hH122
      replace hH : Hp w.heap.size A112 (World.putObj w111 D110 (.deferred none)) (obS (α := cal_Span) 48 (.slice none 0 0) ([] : (List cal_Span)) :: obS (α := cal_Span) 48 v108 z54.1 :: obC b32 [v108] 76 :: obO D110 (.deferred none) :: []) := Hp.addNil (α := cal_Span) (e := 48) hH
      refine C_ret ?_
      try simp only [↓inBlock_ret, ↓then_ret]
      exact retM1 rfl h121 (Res.two Try.results47 rfl rfl) ⟨.slice none 0 0, rfl, (Hp.ownd hH (i := 0) rfl), hK.kp⟩
    · rw [if_neg (nt hc120)] at hm
      refine C_skip_to (fun _ _ => rfl) ?_
      refine C_seq ?_
      refine C_region ?_
      refine V_y (Y_load (Hp.cell (j := 0) hH (i := 1) rfl rfl) Try.isAgg76 rfl) rfl rfl rfl ?_
      refine V_y (Y_assign rfl) rfl rfl rfl ?_
      refine V_y (Y_assign rfl) rfl rfl rfl ?_
      refine V_to (fun _ _ => rfl) ?_
      obtain rfl := Option.some.inj hm
      have h124 := Hp.obj hH (i := 2) (b := D110) rfl
      obtain ⟨hH125, ht126⟩ := Hp.put (.deferred none) hH (i := 2) (b := D110) rfl hB hA
      replace hK := Tr.trans hK ht126
      replace hB := Nat.le_trans hB ht126.ex.size
      replace hA := ht126.new
      replace hH : Hp w.heap.size A112 (World.putObj w111 D110 (.deferred none)) (obS (α := cal_Span) 48 v108 z54.1 :: obC b32 [v108] 76 :: obO D110 (.deferred none) :: []) := hH125
      refine C_ret ?_
      try simp only [↓inBlock_ret, ↓then_ret]
      exact retM1 rfl h124 (Res.two Try.results47 rfl rfl) ⟨v108, rfl, (Hp.ownd hH (i := 0) rfl), hK.kp⟩

set_option maxRecDepth 4000 in
set_option maxHeartbeats 4000000 in
theorem level_Explain_c (w : World) {A : Nat → Prop} (hA : ∀ b, w.heap.size ≤ b → A b) (c : level_Clock) (v_c : Value) (h_c : Sl A w v_c c.pieces) (cals : (List cal_Calendar)) (v_cals : Value) (h_cals : Sl A w v_cals cals) (m : Int) {r : ((List level_Part) × Int)} (hm : level_Explain c cals m = some r) : Ret Try.prog 19 #[.agg #[.int .i64 c.kind, .int .i64 c.level, .int .i64 c.minutes, .int .i64 c.start, .int .i64 c.stop, .int .i64 c.end_, v_c], v_cals, .int .i64 m] w fun v w' => ∃ s0, v = .tuple #[s0, .int .i64 r.2] ∧ Ownd 50 w w' s0 r.1 ∧ Kp w w' := by
  unfold level_Explain at hm
  refine enter Try.func19 rfl Try.ntmps19 rfl ?_
  have hA0 := hA
  have hB := Nat.le_refl w.heap.size
  have hK : Tr w.heap.size A w A w := Tr.refl hA
  have hH : Hp w.heap.size A w [] := Hp.nil
  refine C_seq ?_
  refine C_region ?_
  refine V_box rfl rfl ?_
  intro b5 w6 h7
  have hk9 := h7.kp
  have h8 : El (α := level_Clock) A w6 b5 0 c := h7.el hA ⟨[.int .i64 c.kind], _, rfl, rfl, ⟨[.int .i64 c.level], _, rfl, rfl, ⟨[.int .i64 c.minutes], _, rfl, rfl, ⟨[.int .i64 c.start], _, rfl, rfl, ⟨[.int .i64 c.stop], _, rfl, rfl, ⟨[.int .i64 c.end_], _, rfl, rfl, ⟨_, rfl, h_c⟩⟩⟩⟩⟩⟩⟩
  have ht10 := Kp.tr hk9 hA hB
  replace hH := Hp.kp hH hk9
  replace h_c := Sl.tr h_c ht10
  replace h_cals := Sl.tr h_cals ht10
  replace hK := Tr.trans hK ht10
  replace hB := Nat.le_trans hB ht10.ex.size
  replace hA := ht10.new
  refine V_boxH (B := w.heap.size) hH rfl hB hA rfl ?_
  intro b11 w12 A13 hH14 ht15
  replace h_c := Sl.tr h_c ht15
  replace h_cals := Sl.tr h_cals ht15
  replace h8 := El.tr h8 ht15
  replace hK := Tr.trans hK ht15
  replace hB := Nat.le_trans hB ht15.ex.size
  replace hA := ht15.new
  replace hH : Hp w.heap.size A13 w12 (obC b11 [.int .i64 m] 3 :: []) := hH14
  refine V_y (Y_assign rfl) rfl rfl rfl ?_
  refine V_y (Y_assign rfl) rfl rfl rfl ?_
  refine V_to (fun _ _ => rfl) ?_
  refine C_seq ?_
  refine C_seq ?_
  refine C_region_ch A13 11 [(1, 0), (1, 2), (0, 4), (1, 5), (1, 6), (2, 1), (2, 3), (2, 7), (2, 8), (2, 9), (1, 10)] Try_mixed (by kernel_rfl) (fun w17 hk18 => ?_)
  have ht19 := Kp.tr hk18 hA hB
  replace hH := Hp.kp hH hk18
  replace h_cals := Sl.tr h_cals ht19
  replace h8 := El.tr h8 ht19
  replace hK := Tr.trans hK ht19
  replace hB := Nat.le_trans hB ht19.ex.size
  replace hA := ht19.new
  refine CH_q2 rfl ?_
  obtain ⟨v20, h22, h21⟩ := El_level_Clock h8
  refine VQ_y (fun w' hw' => Y_loadA (At.same h22 (hw'.2 _ h8.2.1 h8.1)) Try.isAgg35 Try.sizeOf35 rfl) rfl rfl rfl ?_
  refine VQ_CH ?_
  refine CH_q2 rfl ?_
  refine VQ_y (fun w' hw' => Y_move rfl) rfl rfl rfl ?_
  refine VQ_CH ?_
  refine CH_q1 rfl ?_
  refine VQ_y (fun w' hw' => Y_load ((World.cell?_of_block (hw'.block _ (World.block_lt_of_cell? _ _ (Hp.cell (j := 0) hH (i := 0) rfl rfl)))).trans (Hp.cell (j := 0) hH (i := 0) rfl rfl)) Try.isAgg3 rfl) rfl rfl rfl ?_
  refine VQ_CH ?_
  refine CH_q2 rfl ?_
  have h23 := El_level_Clock_3 h8
  refine VQ_y (fun w' hw' => Y_fieldAddr Try.underlying35 rfl Try.sizeOf3 (by decide) rfl) rfl rfl rfl ?_
  refine VQ_CH ?_
  refine CH_q2 rfl ?_
  refine VQ_y (fun w' hw' => Y_load (El.int (El.keep h23 (XA.ex hw'))) Try.isAgg3 rfl) rfl rfl rfl ?_
  refine VQ_CH ?_
  refine CH_l1 (k := 0) rfl ?_
  refine V_buildSlice (l := ([c] : List level_Clock)) (len := 1) Try.underlying56 Try.sizeOf35 Try.zeroValue35 rfl (by with_unfolding_all rfl) (by decide) (by decide) hA ⟨[.int .i64 c.kind, .int .i64 c.level, .int .i64 c.minutes, .int .i64 c.start, .int .i64 c.stop, .int .i64 c.end_, v20], _, rfl, ⟨[.int .i64 c.kind], _, rfl, rfl, ⟨[.int .i64 c.level], _, rfl, rfl, ⟨[.int .i64 c.minutes], _, rfl, rfl, ⟨[.int .i64 c.start], _, rfl, rfl, ⟨[.int .i64 c.stop], _, rfl, rfl, ⟨[.int .i64 c.end_], _, rfl, rfl, ⟨_, rfl, h21⟩⟩⟩⟩⟩⟩⟩, rfl⟩ rfl rfl ?_
  intro v24 w25 hk27 h26
  have ht28 := Kp.tr hk27 hA hB
  replace hH := Hp.kp hH hk27
  replace h_cals := Sl.tr h_cals ht28
  replace h8 := El.tr h8 ht28
  replace h21 := Sl.tr h21 ht28
  replace h23 := El.tr h23 ht28
  replace hK := Tr.trans hK ht28
  replace hB := Nat.le_trans hB ht28.ex.size
  replace hA := ht28.new
  refine V_CH (hk27) ?_
  refine CH_l1 (k := 0) rfl ?_
  obtain ⟨x29, hx29, hm⟩ := Option.bind_eq_some_iff.1 hm
  refine V_call Try.call37 rfl rfl rfl rfl (level_check_c w25 hA ([c] : List level_Clock) v24 h26 cals v_cals h_cals hx29) ?_
  rintro _ w30 ⟨rfl, hk31⟩
  have ht32 := Kp.tr hk31 hA hB
  replace hH := Hp.kp hH hk31
  replace h_cals := Sl.tr h_cals ht32
  replace h8 := El.tr h8 ht32
  replace h21 := Sl.tr h21 ht32
  replace h23 := El.tr h23 ht32
  replace h26 := Sl.tr h26 ht32
  replace hK := Tr.trans hK ht32
  replace hB := Nat.le_trans hB ht32.ex.size
  replace hA := ht32.new
  refine V_CH (hk31) ?_
  refine CH_l1 (k := 0) rfl ?_
  refine V_call Try.call38 rfl rfl rfl rfl (level_moment_c w30 m c.start) ?_
  rintro _ _ ⟨rfl, rfl⟩
  refine V_CH (Kp.refl _) ?_
  refine CH_l1 (k := 0) rfl ?_
  refine V_buildSlice (l := ([x29, (level_moment m c.start)] : List Int)) (len := 2) Try.underlying94 Try.sizeOf29 Try.zeroValue29 rfl (by with_unfolding_all rfl) (by decide) (by decide) hA ⟨[.int .i64 x29], _, rfl, rfl, ⟨[.int .i64 (level_moment m c.start)], _, rfl, rfl, rfl⟩⟩ rfl rfl ?_
  intro v33 w34 hk36 h35
  have ht37 := Kp.tr hk36 hA hB
  replace hH := Hp.kp hH hk36
  replace h_cals := Sl.tr h_cals ht37
  replace h8 := El.tr h8 ht37
  replace h21 := Sl.tr h21 ht37
  replace h23 := El.tr h23 ht37
  replace h26 := Sl.tr h26 ht37
  replace hK := Tr.trans hK ht37
  replace hB := Nat.le_trans hB ht37.ex.size
  replace hA := ht37.new
  refine V_CH (hk36) ?_
  refine CH_l1 (k := 0) rfl ?_
  obtain ⟨x38, hx38, hm⟩ := Option.bind_eq_some_iff.1 hm
  refine V_call Try.call36 rfl rfl rfl rfl (cmp_Or_api_Errno_c w34 ([x29, (level_moment m c.start)] : List Int) v33 h35 hx38) ?_
  rintro _ _ ⟨rfl, rfl⟩
  refine V_CH (Kp.refl _) ?_
  refine CH_q2 rfl ?_
  refine VQ_y (fun w' hw' => Y_assign rfl) rfl rfl rfl ?_
  refine VQ_CH ?_
  refine CH_tail ?_
  show V _ _ _ _ [] _ _
  refine V_to (fun _ _ => rfl) ?_
  refine C_seq ?_
  refine C_region ?_
  refine V_y (Y_move rfl) rfl rfl rfl ?_
  refine V_y (Y_neq rfl rfl) rfl rfl rfl ?_
  refine V_to (fun _ _ => rfl) ?_
  refine C_cond rfl (fun hc39 => ?_) (fun hc39 => ?_)
  · rw [if_pos hc39] at hm
    refine C_seq ?_
    refine C_region ?_
    refine V_y (Y_move rfl) rfl rfl rfl ?_
    refine V_y (Y_assign rfl) rfl rfl rfl ?_
    refine V_y (Y_assign rfl) rfl rfl rfl ?_
    refine V_to (fun _ _ => rfl) ?_
    obtain rfl := Option.some.inj hm
    replace hH : Hp w.heap.size A13 w34 (obS (α := level_Part) 50 (.slice none 0 0) ([] : (List level_Part)) :: obC b11 [.int .i64 m] 3 :: []) := Hp.addNil (α := level_Part) (e := 50) hH
    refine C_ret ?_
    try simp only [↓inBlock_ret, ↓then_ret]
    exact retQ rfl (Res.two Try.results19 rfl rfl) ⟨.slice none 0 0, rfl, (Hp.ownd hH (i := 0) rfl), hK.kp⟩
  · rw [if_neg (nt hc39)] at hm
    refine C_skip_to (fun _ _ => rfl) ?_
    refine C_seq ?_
    refine C_seq ?_
    refine C_region ?_
    have h40 := El_level_Clock_4 h8
    refine V_y (Y_fieldAddr Try.underlying35 rfl Try.sizeOf3 (by decide) rfl) rfl rfl rfl ?_
    refine V_y (Y_load (El.int h40) Try.isAgg3 rfl) rfl rfl rfl ?_
    refine V_y (Y_neq rfl rfl) rfl rfl rfl ?_
    refine V_to (fun _ _ => rfl) ?_
    obtain ⟨s42, ho41, hm⟩ := Option.bind_eq_some_iff.1 hm
    refine C_cutG (ι := (Nat → Prop)) (fun (A47 : (Nat → Prop)) => [(1, v_cals), (3, .pointer (some ⟨b5, 0, none⟩)), (5, .pointer (some ⟨b11, 0, none⟩))]) (fun (A47 : (Nat → Prop)) => fun w' => Hp w.heap.size A47 w' (obC b11 [.int .i64 s42] 3 :: []) ∧ Tr w.heap.size A13 w34 A47 w') ?_ ?_
    · have hr43 : Tr w.heap.size A13 w34 A13 w34 := Tr.refl hA
      refine C_cond rfl (fun hc49 => ?_) (fun hc49 => ?_)
      · rw [if_pos hc49] at ho41
        refine C_region ?_
        refine V_y (Y_load (Hp.cell (j := 0) hH (i := 0) rfl rfl) Try.isAgg3 rfl) rfl rfl rfl ?_
        have h50 := El_level_Clock_4 h8
        refine V_y (Y_fieldAddr Try.underlying35 rfl Try.sizeOf3 (by decide) rfl) rfl rfl rfl ?_
        refine V_y (Y_load (El.int h50) Try.isAgg3 rfl) rfl rfl rfl ?_
        refine V_y (Y_min2 rfl rfl) rfl rfl rfl ?_
        refine V_storeC (off := 0) (ds := [.int .i64 (if c.stop < m then c.stop else m)]) hH (i := 0) rfl Try.sizeOf3 rfl (Nat.le_of_ble_eq_true rfl) (by simp [Value.cells, Value.oneCell']) rfl hB hA rfl rfl ?_
        intro w51 hH52 ht53
        replace h_cals := Sl.tr h_cals ht53
        replace h8 := El.tr h8 ht53
        replace h50 := El.tr h50 ht53
        replace hK := Tr.trans hK ht53
        replace hr43 := Tr.trans hr43 ht53
        replace hB := Nat.le_trans hB ht53.ex.size
        replace hA := ht53.new
        replace hH : Hp w.heap.size A13 w51 (obC b11 [.int .i64 (if c.stop < m then c.stop else m)] 3 :: []) := hH52
        obtain rfl := Option.some.inj ho41
        refine V_end (fun a ha54 => ?_)
        exact ⟨A13, ha54.sub ⟨rfl, rfl, rfl, trivial⟩, ⟨hH, hr43⟩⟩
      · rw [if_neg (nt hc49)] at ho41
        obtain rfl := Option.some.inj ho41
        refine C_skip (fun a ha55 => ?_)
        exact ⟨A13, ha55.sub ⟨rfl, rfl, rfl, trivial⟩, ⟨hH, hr43⟩⟩
    rintro A47 w44 ⟨hH48, hk45⟩ a ha46
    replace h_cals := Sl.tr h_cals hk45
    replace h8 := El.tr h8 hk45
    replace hK := Tr.trans hK hk45
    replace hB := Nat.le_trans hB hk45.ex.size
    replace hA := hk45.new
    replace hH : Hp w.heap.size A47 w44 (obC b11 [.int .i64 s42] 3 :: []) := hH48
    refine C_at (n := ⟨100, [], none⟩) (fun _ _ => rfl) ?_ ha46
    refine C_seq ?_
    refine C_region ?_
    refine V_allocH (B := w.heap.size) hH Try.zeroValue43 hB hA rfl ?_
    intro b56 w57 A58 hH59 ht60
    replace h_cals := Sl.tr h_cals ht60
    replace h8 := El.tr h8 ht60
    replace hK := Tr.trans hK ht60
    replace hB := Nat.le_trans hB ht60.ex.size
    replace hA := ht60.new
    replace hH : Hp w.heap.size A58 w57 (obC b56 [.slice none 0 0] 43 :: obC b11 [.int .i64 s42] 3 :: []) := hH59
    refine V_to (fun _ _ => rfl) ?_
    refine C_seq ?_
    refine C_region ?_
    have h61 := El_level_Clock_3 h8
    refine V_y (Y_fieldAddr Try.underlying35 rfl Try.sizeOf3 (by decide) rfl) rfl rfl rfl ?_
    refine V_y (Y_load (El.int h61) Try.isAgg3 rfl) rfl rfl rfl ?_
    refine V_allocH (B := w.heap.size) hH Try.zeroValue3 hB hA rfl ?_
    intro b62 w63 A64 hH65 ht66
    replace h_cals := Sl.tr h_cals ht66
    replace h8 := El.tr h8 ht66
    replace h61 := El.tr h61 ht66
    replace hK := Tr.trans hK ht66
    replace hB := Nat.le_trans hB ht66.ex.size
    replace hA := ht66.new
    replace hH : Hp w.heap.size A64 w63 (obC b62 [.int .i64 0] 3 :: obC b56 [.slice none 0 0] 43 :: obC b11 [.int .i64 s42] 3 :: []) := hH65
    refine V_storeC (off := 0) (ds := [.int .i64 c.start]) hH (i := 0) rfl Try.sizeOf3 rfl (Nat.le_of_ble_eq_true rfl) (by simp [Value.cells, Value.oneCell']) rfl hB hA rfl rfl ?_
    intro w67 hH68 ht69
    replace h_cals := Sl.tr h_cals ht69
    replace h8 := El.tr h8 ht69
    replace h61 := El.tr h61 ht69
    replace hK := Tr.trans hK ht69
    replace hB := Nat.le_trans hB ht69.ex.size
    replace hA := ht69.new
    replace hH : Hp w.heap.size A64 w67 (obC b62 [.int .i64 c.start] 3 :: obC b56 [.slice none 0 0] 43 :: obC b11 [.int .i64 s42] 3 :: []) := hH68
    refine V_to (fun _ _ => rfl) ?_
    refine C_seq ?_
    refine C_region ?_
    refine V_y (Y_makeFunc rfl rfl) rfl rfl rfl ?_
    refine V_y (Y_assign rfl) rfl rfl rfl ?_
    refine V_to (fun _ _ => rfl) ?_
    refine C_seq ?_
    refine C_seq ?_
    refine C_region ?_
    have h70 := El_level_Clock_6 h8
    refine V_y (Y_fieldAddr Try.underlying35 rfl Try.sizeOf33 (by decide) rfl) rfl rfl rfl ?_
    obtain ⟨v71, h72, h73⟩ := El.list h70
    refine V_y (Y_load h72 Try.isAgg33 rfl) rfl rfl rfl ?_
    refine V_y (Y_lenSl h73 rfl Try.underlying33 rfl) rfl rfl rfl ?_
    refine V_y (Y_move rfl) rfl rfl rfl ?_
    refine V_to (fun _ _ => rfl) ?_
    replace hH : Hp w.heap.size A64 w67 (obS (α := level_Part) 50 (.slice none 0 0) ([] : (List level_Part)) :: obC b62 [.int .i64 c.start] 3 :: obC b56 [.slice none 0 0] 43 :: obC b11 [.int .i64 s42] 3 :: []) := Hp.addNil (α := level_Part) (e := 50) hH
    have hn98 := Sl.le h73
    obtain ⟨o74, ho74, hm⟩ := Option.bind_eq_some_iff.1 hm
    refine C_cutG (ι := ((Int × (List level_Part)) × Value × (Nat → Prop))) (fun ⟨s75, v81, A83⟩ => [(5, .pointer (some ⟨b11, 0, none⟩)), (9, .pointer (some ⟨b56, 0, none⟩)), (11, .func (.func 46) #[] #[.pointer (some ⟨b11, 0, none⟩), .pointer (some ⟨b62, 0, none⟩), .pointer (some ⟨b56, 0, none⟩)])]) (fun ⟨s75, v81, A83⟩ => fun w' => o74 = .fin s75 ∧ Hp w.heap.size A83 w' (obS (α := level_Part) 50 v81 s75.2 :: obC b62 [.int .i64 s75.1] 3 :: obC b56 [v81] 43 :: obC b11 [.int .i64 s42] 3 :: []) ∧ Tr w.heap.size A64 w67 A83 w') ?_ ?_
    · refine C_block ?_
      refine C_range ho74 (fun k77 s85 a w' => ∃ i : (Value × (Nat → Prop)), Has ⟨100, [], none⟩ a ([(1, v_cals), (5, .pointer (some ⟨b11, 0, none⟩)), (9, .pointer (some ⟨b56, 0, none⟩)), (11, .func (.func 46) #[] #[.pointer (some ⟨b11, 0, none⟩), .pointer (some ⟨b62, 0, none⟩), .pointer (some ⟨b56, 0, none⟩)]), (43, v71), (44, .int .i64 (c.pieces.length : Int)), (45, .int .i64 (k77 : Int))]) ∧ Hp w.heap.size i.2 w' (obS (α := level_Part) 50 i.1 s85.2 :: obC b62 [.int .i64 s85.1] 3 :: obC b56 [i.1] 43 :: obC b11 [.int .i64 s42] 3 :: []) ∧ Tr w.heap.size A64 w67 i.2 w') (fun a ha => ⟨(.slice none 0 0, A64), ha.sub ⟨rfl, rfl, rfl, rfl, rfl, rfl, rfl, trivial⟩, ⟨hH, Tr.refl hA⟩⟩) ?_
      rintro K k77 s85 a w86 ⟨⟨v87, A89⟩, ha237, hH90, hr76⟩ hle94 K97 h96
      refine C_of ?_ ha237
      replace h_cals := Sl.tr h_cals hr76
      replace h73 := Sl.tr h73 hr76
      replace hK := Tr.trans hK hr76
      replace hB := Nat.le_trans hB hr76.ex.size
      replace hA := hr76.new
      replace hH : Hp w.heap.size A89 w86 (obS (α := level_Part) 50 v87 s85.2 :: obC b62 [.int .i64 s85.1] 3 :: obC b56 [v87] 43 :: obC b11 [.int .i64 s42] 3 :: []) := hH90
      refine C_seq (C_region (V_y (Y_lss rfl rfl) rfl rfl rfl (V_to (fun _ _ => rfl) ?_)))
      refine C_seq ?_
      refine C_cond rfl (fun hc99 => ?_) (fun hc99 => ?_)
      · have hlt95 := lt_of_dec hc99
        obtain ⟨x91, h92, h93⟩ := K97 hlt95
        refine C_skip_to (fun _ _ => rfl) ?_
        refine C_seq ?_
        obtain ⟨s101, ho100, h92⟩ := Option.bind_eq_some_iff.1 h92
        refine C_cutG (ι := (Value × (Nat → Prop))) (fun ⟨v103, A108⟩ => [(1, v_cals), (5, .pointer (some ⟨b11, 0, none⟩)), (9, .pointer (some ⟨b56, 0, none⟩)), (11, .func (.func 46) #[] #[.pointer (some ⟨b11, 0, none⟩), .pointer (some ⟨b62, 0, none⟩), .pointer (some ⟨b56, 0, none⟩)]), (43, v71), (44, .int .i64 (c.pieces.length : Int)), (45, .int .i64 (k77 : Int))]) (fun ⟨v103, A108⟩ => fun w' => Hp w.heap.size A108 w' (obS (α := level_Part) 50 v103 s101.2 :: obC b62 [.int .i64 s101.1] 3 :: obC b56 [v103] 43 :: obC b11 [.int .i64 s42] 3 :: []) ∧ Tr w.heap.size A89 w86 A108 w') ?_ ?_
        · have hr102 : Tr w.heap.size A89 w86 A89 w86 := Tr.refl hA
          refine C_block ?_
          refine C_seq ?_
          refine C_region ?_
          obtain ⟨x110, hx110, ho100⟩ := Option.bind_eq_some_iff.1 ho100
          refine V_indexAddr h73 hx110 Try.underlying33 Try.sizeOf64 rfl rfl rfl ?_
          intro b111 o112 h113
          obtain ⟨h114, _⟩ := El_level_Piece h113
          refine V_y (Y_loadA h114 Try.isAgg64 Try.sizeOf64 rfl) rfl rfl rfl ?_
          refine V_alloc Try.zeroValue64 rfl ?_
          intro b115 w116 h117
          refine V_storeNew h117 Try.sizeOf64 rfl rfl rfl rfl (by exact (List.forall_mem_cons.2 ⟨rfl, (List.forall_mem_cons.2 ⟨rfl, (List.forall_mem_cons.2 ⟨rfl, (fun _ h => nomatch h)⟩)⟩)⟩)) ?_
          intro w118 h119
          have hk121 := h119.kp
          have h120 : El (α := level_Piece) A89 w118 b115 0 x110 := h119.el hA ⟨[.int .i64 x110.from_], _, rfl, rfl, ⟨[.int .i64 x110.to_], _, rfl, rfl, rfl⟩⟩
          have ht122 := Kp.tr hk121 hA hB
          replace hH := Hp.kp hH hk121
          replace h_cals := Sl.tr h_cals ht122
          replace h73 := Sl.tr h73 ht122
          replace h113 := El.tr h113 ht122
          replace hK := Tr.trans hK ht122
          replace hr76 := Tr.trans hr76 ht122
          replace hr102 := Tr.trans hr102 ht122
          replace hB := Nat.le_trans hB ht122.ex.size
          replace hA := ht122.new
          refine V_to (fun _ _ => rfl) ?_
          refine C_seq ?_
          refine C_region ?_
          have h123 := El_level_Piece_1 h120
          refine V_y (Y_fieldAddr Try.underlying64 rfl Try.sizeOf3 (by decide) rfl) rfl rfl rfl ?_
          refine V_y (Y_load (El.int h123) Try.isAgg3 rfl) rfl rfl rfl ?_
          refine V_y (Y_assign rfl) rfl rfl rfl ?_
          refine V_to (fun _ _ => rfl) ?_
          refine C_seq ?_
          refine C_seq ?_
          refine C_region ?_
          refine V_y (Y_move rfl) rfl rfl rfl ?_
          refine V_y (Y_eql rfl rfl) rfl rfl rfl ?_
          refine V_to (fun _ _ => rfl) ?_
          obtain ⟨s125, ho124, ho100⟩ := Option.bind_eq_some_iff.1 ho100
          refine C_cutG (ι := Unit) (fun (_ : Unit) => [(1, v_cals), (5, .pointer (some ⟨b11, 0, none⟩)), (9, .pointer (some ⟨b56, 0, none⟩)), (11, .func (.func 46) #[] #[.pointer (some ⟨b11, 0, none⟩), .pointer (some ⟨b62, 0, none⟩), .pointer (some ⟨b56, 0, none⟩)]), (13, .pointer (some ⟨b115, 0, none⟩)), (14, .int .i64 s125), (43, v71), (44, .int .i64 (c.pieces.length : Int)), (45, .int .i64 (k77 : Int))]) (fun (_ : Unit) => fun w' => w118 = w') ?_ ?_
          · refine C_cond rfl (fun hc130 => ?_) (fun hc130 => ?_)
            · rw [if_pos hc130] at ho124
              refine C_region ?_
              refine V_y (Y_load (Hp.cell (j := 0) hH (i := 3) rfl rfl) Try.isAgg3 rfl) rfl rfl rfl ?_
              refine V_y (Y_assign rfl) rfl rfl rfl ?_
              obtain rfl := Option.some.inj ho124
              refine V_end (fun a ha131 => ?_)
              exact ⟨(), ha131.sub ⟨rfl, rfl, rfl, rfl, rfl, rfl, rfl, rfl, rfl, trivial⟩, rfl⟩
            · rw [if_neg (nt hc130)] at ho124
              obtain rfl := Option.some.inj ho124
              refine C_skip (fun a ha132 => ?_)
              exact ⟨(), ha132.sub ⟨rfl, rfl, rfl, rfl, rfl, rfl, rfl, rfl, rfl, trivial⟩, rfl⟩
          rintro _ _ rfl a ha129
          refine C_at (n := ⟨100, [], none⟩) (fun _ _ => rfl) ?_ ha129
          refine C_seq ?_
          refine C_region ?_
          refine V_y (Y_move rfl) rfl rfl rfl ?_
          refine V_y (Y_load (Hp.cell (j := 0) hH (i := 3) rfl rfl) Try.isAgg3 rfl) rfl rfl rfl ?_
          refine V_y (Y_min2 rfl rfl) rfl rfl rfl ?_
          refine V_y (Y_assign rfl) rfl rfl rfl ?_
          refine V_to (fun _ _ => rfl) ?_
          refine C_seq ?_
          refine C_region ?_
          refine V_y (Y_move rfl) rfl rfl rfl ?_
          have h133 := El_level_Piece_0 h120
          refine V_y (Y_fieldAddr Try.underlying64 rfl Try.sizeOf3 (by decide) rfl) rfl rfl rfl ?_
          refine V_y (Y_load (El.int h133) Try.isAgg3 rfl) rfl rfl rfl ?_
          replace hH : Hp w.heap.size A89 w118 (obC b56 [v87] 43 :: obS (α := level_Part) 50 v87 s85.2 :: obC b62 [.int .i64 s85.1] 3 :: obC b11 [.int .i64 s42] 3 :: []) := Hp.front hH (i := 2) rfl
          replace hH : Hp w.heap.size A89 w118 (obC b62 [.int .i64 s85.1] 3 :: obC b56 [v87] 43 :: obS (α := level_Part) 50 v87 s85.2 :: obC b11 [.int .i64 s42] 3 :: []) := Hp.front hH (i := 2) rfl
          replace hH : Hp w.heap.size A89 w118 (obC b11 [.int .i64 s42] 3 :: obC b62 [.int .i64 s85.1] 3 :: obC b56 [v87] 43 :: obS (α := level_Part) 50 v87 s85.2 :: []) := Hp.front hH (i := 3) rfl
          obtain ⟨x134, hx134, ho100⟩ := Option.bind_eq_some_iff.1 ho100
          refine V_call Try.call46 rfl rfl rfl rfl (level_Explain_1_c w118 hB hA x110.from_ 3 s42 b11 s85.1 b62 s85.2 b56 v87 hH hx134) ?_
          rintro _ w137 ⟨v135, A138, rfl, hH139, ht140⟩
          replace h_cals := Sl.tr h_cals ht140
          replace h73 := Sl.tr h73 ht140
          replace h120 := El.tr h120 ht140
          replace h133 := El.tr h133 ht140
          replace hK := Tr.trans hK ht140
          replace hr76 := Tr.trans hr76 ht140
          replace hr102 := Tr.trans hr102 ht140
          replace hB := Nat.le_trans hB ht140.ex.size
          replace hA := ht140.new
          replace hH : Hp w.heap.size A138 w137 (obC b11 [.int .i64 s42] 3 :: obC b62 [.int .i64 x134.1] 3 :: obC b56 [v135] 43 :: obS (α := level_Part) 50 v135 x134.2 :: []) := hH139
          refine V_to (fun _ _ => rfl) ?_
          refine C_seq ?_
          refine C_seq ?_
          refine C_region ?_
          have h141 := El_level_Piece_0 h120
          refine V_y (Y_fieldAddr Try.underlying64 rfl Try.sizeOf3 (by decide) rfl) rfl rfl rfl ?_
          refine V_y (Y_load (El.int h141) Try.isAgg3 rfl) rfl rfl rfl ?_
          refine V_y (Y_move rfl) rfl rfl rfl ?_
          refine V_y (Y_geq rfl rfl) rfl rfl rfl ?_
          refine V_to (fun _ _ => rfl) ?_
          refine C_cond rfl (fun hc142 => ?_) (fun hc142 => ?_)
          · rw [if_pos hc142] at ho100
            obtain rfl := Option.some.inj ho100
            refine C_exit (fun a ha143 => ?_)
            replace hH : Hp w.heap.size A138 w137 (obC b56 [v135] 43 :: obC b11 [.int .i64 s42] 3 :: obC b62 [.int .i64 x134.1] 3 :: obS (α := level_Part) 50 v135 x134.2 :: []) := Hp.front hH (i := 2) rfl
            replace hH : Hp w.heap.size A138 w137 (obC b62 [.int .i64 x134.1] 3 :: obC b56 [v135] 43 :: obC b11 [.int .i64 s42] 3 :: obS (α := level_Part) 50 v135 x134.2 :: []) := Hp.front hH (i := 2) rfl
            replace hH : Hp w.heap.size A138 w137 (obS (α := level_Part) 50 v135 x134.2 :: obC b62 [.int .i64 x134.1] 3 :: obC b56 [v135] 43 :: obC b11 [.int .i64 s42] 3 :: []) := Hp.front hH (i := 3) rfl
            exact ⟨(v135, A138), ha143.sub ⟨rfl, rfl, rfl, rfl, rfl, rfl, rfl, trivial⟩, ⟨hH, hr102⟩⟩
          · rw [if_neg (nt hc142)] at ho100
            refine C_skip_to (fun _ _ => rfl) ?_
            refine C_seq ?_
            refine C_region_ch A138 14 [(1, 0), (1, 1), (1, 2), (1, 3), (1, 4), (1, 5), (1, 6), (1, 7), (2, 8), (1, 9), (1, 10), (1, 11), (1, 12), (1, 13)] Try_mixed (by kernel_rfl) (fun w144 hk145 => ?_)
            have ht146 := Kp.tr hk145 hA hB
            replace hH := Hp.kp hH hk145
            replace h_cals := Sl.tr h_cals ht146
            replace h73 := Sl.tr h73 ht146
            replace h120 := El.tr h120 ht146
            replace hK := Tr.trans hK ht146
            replace hr76 := Tr.trans hr76 ht146
            replace hr102 := Tr.trans hr102 ht146
            replace hB := Nat.le_trans hB ht146.ex.size
            replace hA := ht146.new
            refine CH_q2 rfl ?_
            refine VQ_y (fun w' hw' => Y_move rfl) rfl rfl rfl ?_
            refine VQ_CH ?_
            refine CH_q2 rfl ?_
            have h147 := El_level_Piece_2 h120
            refine VQ_y (fun w' hw' => Y_fieldAddr Try.underlying64 rfl Try.sizeOf3 (by decide) rfl) rfl rfl rfl ?_
            refine VQ_CH ?_
            refine CH_q2 rfl ?_
            refine VQ_y (fun w' hw' => Y_load (El.int (El.keep h147 (XA.ex hw'))) Try.isAgg3 rfl) rfl rfl rfl ?_
            refine VQ_CH ?_
            refine CH_q2 rfl ?_
            obtain ⟨x148, hx148, ho100⟩ := Option.bind_eq_some_iff.1 ho100
            refine VQ_indexAddr h_cals hx148 Try.underlying36 Try.sizeOf28 rfl rfl rfl ?_
            intro b149 o150 h151
            refine VQ_CH ?_
            refine CH_q2 rfl ?_
            obtain ⟨v152, v154, v156, h158, h153, h155, h157⟩ := El_cal_Calendar h151
            refine VQ_y (fun w' hw' => Y_loadA (At.same h158 (hw'.2 _ h151.2.1 h151.1)) Try.isAgg28 Try.sizeOf28 rfl) rfl rfl rfl ?_
            refine VQ_CH ?_
            refine CH_q2 rfl ?_
            have h159 := El_level_Piece_0 h120
            refine VQ_y (fun w' hw' => Y_fieldAddr Try.underlying64 rfl Try.sizeOf3 (by decide) rfl) rfl rfl rfl ?_
            refine VQ_CH ?_
            refine CH_q2 rfl ?_
            refine VQ_y (fun w' hw' => Y_load (El.int (El.keep h159 (XA.ex hw'))) Try.isAgg3 rfl) rfl rfl rfl ?_
            refine VQ_CH ?_
            refine CH_q2 rfl ?_
            refine VQ_y (fun w' hw' => Y_move rfl) rfl rfl rfl ?_
            refine VQ_CH ?_
            refine CH_l1 (k := 0) rfl ?_
            obtain ⟨x160, hx160, ho100⟩ := Option.bind_eq_some_iff.1 ho100
            refine V_call Try.call47 rfl rfl rfl rfl (cal_Spans_c w144 hA x148 v152 h153 v154 h155 v156 h157 x110.from_ (if s42 < s125 then s42 else s125) hx160) ?_
            rintro _ w163 ⟨v161, rfl, h162, hk164⟩
            obtain ⟨A165, ht166, hH167⟩ := Hp.addOwnd hH hB hA hk164 h162
            replace h_cals := Sl.tr h_cals ht166
            replace h73 := Sl.tr h73 ht166
            replace h120 := El.tr h120 ht166
            replace h147 := El.tr h147 ht166
            replace h151 := El.tr h151 ht166
            replace h153 := Sl.tr h153 ht166
            replace h155 := Sl.tr h155 ht166
            replace h157 := Sl.tr h157 ht166
            replace h159 := El.tr h159 ht166
            replace hK := Tr.trans hK ht166
            replace hr76 := Tr.trans hr76 ht166
            replace hr102 := Tr.trans hr102 ht166
            replace hB := Nat.le_trans hB ht166.ex.size
            replace hA := ht166.new
            replace hH : Hp w.heap.size A165 w163 (obS (α := cal_Span) 48 v161 x160.1 :: obC b11 [.int .i64 s42] 3 :: obC b62 [.int .i64 x134.1] 3 :: obC b56 [v135] 43 :: obS (α := level_Part) 50 v135 x134.2 :: []) := hH167
            refine V_CH (hk164) ?_
            refine CH_q2 rfl ?_
            refine VQ_y (fun w' hw' => Y_move rfl) rfl rfl rfl ?_
            refine VQ_CH ?_
            refine CH_q2 rfl ?_
            refine VQ_y (fun w' hw' => Y_extract rfl rfl) rfl rfl rfl ?_
            refine VQ_CH ?_
            refine CH_q2 rfl ?_
            refine VQ_y (fun w' hw' => Y_extract rfl rfl) rfl rfl rfl ?_
            refine VQ_CH ?_
            refine CH_q2 rfl ?_
            refine VQ_y (fun w' hw' => Y_assign rfl) rfl rfl rfl ?_
            refine VQ_CH ?_
            refine CH_q2 rfl ?_
            refine VQ_y (fun w' hw' => Y_assign rfl) rfl rfl rfl ?_
            refine VQ_CH ?_
            refine CH_tail ?_
            show V _ _ _ _ [] _ _
            refine V_to (fun _ _ => rfl) ?_
            refine C_seq ?_
            refine C_seq ?_
            refine C_region ?_
            refine V_y (Y_move rfl) rfl rfl rfl ?_
            refine V_y (Y_lenSl (Hp.any (α := cal_Span) (e := 48) (v := v161) (l := x160.1) hH (i := 0) rfl) rfl Try.underlying76 rfl) rfl rfl rfl ?_
            refine V_y (Y_move rfl) rfl rfl rfl ?_
            refine V_to (fun _ _ => rfl) ?_
            have hn192 := Hp.le (α := cal_Span) (e := 48) (v := v161) (l := x160.1) hH (i := 0) rfl
            obtain ⟨o168, ho168, ho100⟩ := Option.bind_eq_some_iff.1 ho100
            refine C_cutG (ι := ((Int × (List level_Part)) × Value × (Nat → Prop))) (fun ⟨s169, v175, A177⟩ => [(1, v_cals), (5, .pointer (some ⟨b11, 0, none⟩)), (9, .pointer (some ⟨b56, 0, none⟩)), (11, .func (.func 46) #[] #[.pointer (some ⟨b11, 0, none⟩), .pointer (some ⟨b62, 0, none⟩), .pointer (some ⟨b56, 0, none⟩)]), (14, .int .i64 (if s42 < s125 then s42 else s125)), (43, v71), (44, .int .i64 (c.pieces.length : Int)), (45, .int .i64 (k77 : Int))]) (fun ⟨s169, v175, A177⟩ => fun w' => o168 = .fin s169 ∧ Hp w.heap.size A177 w' (obS (α := cal_Span) 48 v161 x160.1 :: obC b11 [.int .i64 s42] 3 :: obC b62 [.int .i64 s169.1] 3 :: obC b56 [v175] 43 :: obS (α := level_Part) 50 v175 s169.2 :: []) ∧ Tr w.heap.size A165 w163 A177 w') ?_ ?_
            · refine C_block ?_
              refine C_range ho168 (fun k171 s179 a w' => ∃ i : (Value × (Nat → Prop)), Has ⟨100, [], none⟩ a ([(1, v_cals), (5, .pointer (some ⟨b11, 0, none⟩)), (9, .pointer (some ⟨b56, 0, none⟩)), (11, .func (.func 46) #[] #[.pointer (some ⟨b11, 0, none⟩), .pointer (some ⟨b62, 0, none⟩), .pointer (some ⟨b56, 0, none⟩)]), (14, .int .i64 (if s42 < s125 then s42 else s125)), (43, v71), (44, .int .i64 (c.pieces.length : Int)), (45, .int .i64 (k77 : Int)), (77, v161), (78, .int .i64 (x160.1.length : Int)), (79, .int .i64 (k171 : Int))]) ∧ Hp w.heap.size i.2 w' (obS (α := cal_Span) 48 v161 x160.1 :: obC b11 [.int .i64 s42] 3 :: obC b62 [.int .i64 s179.1] 3 :: obC b56 [i.1] 43 :: obS (α := level_Part) 50 i.1 s179.2 :: []) ∧ Tr w.heap.size A165 w163 i.2 w') (fun a ha => ⟨(v135, A165), ha.sub ⟨rfl, rfl, rfl, rfl, rfl, rfl, rfl, rfl, rfl, rfl, rfl, trivial⟩, ⟨hH, Tr.refl hA⟩⟩) ?_
              rintro K k171 s179 a w180 ⟨⟨v181, A183⟩, ha226, hH184, hr170⟩ hle188 K191 h190
              refine C_of ?_ ha226
              replace h_cals := Sl.tr h_cals hr170
              replace h73 := Sl.tr h73 hr170
              replace hK := Tr.trans hK hr170
              replace hr76 := Tr.trans hr76 hr170
              replace hr102 := Tr.trans hr102 hr170
              replace hB := Nat.le_trans hB hr170.ex.size
              replace hA := hr170.new
              replace hH : Hp w.heap.size A183 w180 (obS (α := cal_Span) 48 v161 x160.1 :: obC b11 [.int .i64 s42] 3 :: obC b62 [.int .i64 s179.1] 3 :: obC b56 [v181] 43 :: obS (α := level_Part) 50 v181 s179.2 :: []) := hH184
              refine C_seq (C_region (V_y (Y_lss rfl rfl) rfl rfl rfl (V_to (fun _ _ => rfl) ?_)))
              refine C_seq ?_
              refine C_cond rfl (fun hc193 => ?_) (fun hc193 => ?_)
              · have hlt189 := lt_of_dec hc193
                obtain ⟨x185, h186, h187⟩ := K191 hlt189
                refine C_skip_to (fun _ _ => rfl) ?_
                refine C_seq ?_
                refine C_block ?_
                refine C_seq ?_
                refine C_region ?_
                obtain ⟨x194, hx194, h186⟩ := Option.bind_eq_some_iff.1 h186
                refine V_indexAddrH (α := cal_Span) (e := 48) (v := v161) (l := x160.1) hH (i := 0) rfl hx194 Try.underlying76 Try.sizeOf48 rfl rfl rfl ?_
                intro b195 o196 h197 hl198
                obtain ⟨h199, _⟩ := El_cal_Span h197
                refine V_y (Y_loadA h199 Try.isAgg48 Try.sizeOf48 rfl) rfl rfl rfl ?_
                refine V_alloc Try.zeroValue48 rfl ?_
                intro b200 w201 h202
                refine V_storeNew h202 Try.sizeOf48 rfl rfl rfl rfl (by exact (List.forall_mem_cons.2 ⟨rfl, (List.forall_mem_cons.2 ⟨rfl, (fun _ h => nomatch h)⟩)⟩)) ?_
                intro w203 h204
                have hk206 := h204.kp
                have h205 : El (α := cal_Span) A183 w203 b200 0 x194 := h204.el hA ⟨[.int .i64 x194.from_], _, rfl, rfl, rfl⟩
                have ht207 := Kp.tr hk206 hA hB
                replace hH := Hp.kp hH hk206
                replace h_cals := Sl.tr h_cals ht207
                replace h73 := Sl.tr h73 ht207
                replace h197 := El.kp h197 hk206
                replace hK := Tr.trans hK ht207
                replace hr76 := Tr.trans hr76 ht207
                replace hr102 := Tr.trans hr102 ht207
                replace hr170 := Tr.trans hr170 ht207
                replace hB := Nat.le_trans hB ht207.ex.size
                replace hA := ht207.new
                refine V_to (fun _ _ => rfl) ?_
                refine C_seq ?_
                refine C_region ?_
                refine V_y (Y_move rfl) rfl rfl rfl ?_
                have h208 := El_cal_Span_0 h205
                refine V_y (Y_fieldAddr Try.underlying48 rfl Try.sizeOf3 (by decide) rfl) rfl rfl rfl ?_
                refine V_y (Y_load (El.int h208) Try.isAgg3 rfl) rfl rfl rfl ?_
                replace hH : Hp w.heap.size A183 w203 (obS (α := level_Part) 50 v181 s179.2 :: obS (α := cal_Span) 48 v161 x160.1 :: obC b11 [.int .i64 s42] 3 :: obC b62 [.int .i64 s179.1] 3 :: obC b56 [v181] 43 :: []) := Hp.front hH (i := 4) rfl
                replace hH : Hp w.heap.size A183 w203 (obC b56 [v181] 43 :: obS (α := level_Part) 50 v181 s179.2 :: obS (α := cal_Span) 48 v161 x160.1 :: obC b11 [.int .i64 s42] 3 :: obC b62 [.int .i64 s179.1] 3 :: []) := Hp.front hH (i := 4) rfl
                replace hH : Hp w.heap.size A183 w203 (obC b62 [.int .i64 s179.1] 3 :: obC b56 [v181] 43 :: obS (α := level_Part) 50 v181 s179.2 :: obS (α := cal_Span) 48 v161 x160.1 :: obC b11 [.int .i64 s42] 3 :: []) := Hp.front hH (i := 4) rfl
                replace hH : Hp w.heap.size A183 w203 (obC b11 [.int .i64 s42] 3 :: obC b62 [.int .i64 s179.1] 3 :: obC b56 [v181] 43 :: obS (α := level_Part) 50 v181 s179.2 :: obS (α := cal_Span) 48 v161 x160.1 :: []) := Hp.front hH (i := 4) rfl
                obtain ⟨x209, hx209, h186⟩ := Option.bind_eq_some_iff.1 h186
                refine V_call Try.call46 rfl rfl rfl rfl (level_Explain_1_c w203 hB hA x194.from_ 2 s42 b11 s179.1 b62 s179.2 b56 v181 hH hx209) ?_
                rintro _ w212 ⟨v210, A213, rfl, hH214, ht215⟩
                replace h_cals := Sl.tr h_cals ht215
                replace h73 := Sl.tr h73 ht215
                replace h205 := El.tr h205 ht215
                replace h208 := El.tr h208 ht215
                replace hK := Tr.trans hK ht215
                replace hr76 := Tr.trans hr76 ht215
                replace hr102 := Tr.trans hr102 ht215
                replace hr170 := Tr.trans hr170 ht215
                replace hB := Nat.le_trans hB ht215.ex.size
                replace hA := ht215.new
                replace hH : Hp w.heap.size A213 w212 (obC b11 [.int .i64 s42] 3 :: obC b62 [.int .i64 x209.1] 3 :: obC b56 [v210] 43 :: obS (α := level_Part) 50 v210 x209.2 :: obS (α := cal_Span) 48 v161 x160.1 :: []) := hH214
                refine V_to (fun _ _ => rfl) ?_
                refine C_region ?_
                refine V_y (Y_move rfl) rfl rfl rfl ?_
                have h216 := El_cal_Span_1 h205
                refine V_y (Y_fieldAddr Try.underlying48 rfl Try.sizeOf3 (by decide) rfl) rfl rfl rfl ?_
                refine V_y (Y_load (El.int h216) Try.isAgg3 rfl) rfl rfl rfl ?_
                replace hH : Hp w.heap.size A213 w212 (obS (α := level_Part) 50 v210 x209.2 :: obC b11 [.int .i64 s42] 3 :: obC b62 [.int .i64 x209.1] 3 :: obC b56 [v210] 43 :: obS (α := cal_Span) 48 v161 x160.1 :: []) := Hp.front hH (i := 3) rfl
                replace hH : Hp w.heap.size A213 w212 (obC b56 [v210] 43 :: obS (α := level_Part) 50 v210 x209.2 :: obC b11 [.int .i64 s42] 3 :: obC b62 [.int .i64 x209.1] 3 :: obS (α := cal_Span) 48 v161 x160.1 :: []) := Hp.front hH (i := 3) rfl
                replace hH : Hp w.heap.size A213 w212 (obC b62 [.int .i64 x209.1] 3 :: obC b56 [v210] 43 :: obS (α := level_Part) 50 v210 x209.2 :: obC b11 [.int .i64 s42] 3 :: obS (α := cal_Span) 48 v161 x160.1 :: []) := Hp.front hH (i := 3) rfl
                replace hH : Hp w.heap.size A213 w212 (obC b11 [.int .i64 s42] 3 :: obC b62 [.int .i64 x209.1] 3 :: obC b56 [v210] 43 :: obS (α := level_Part) 50 v210 x209.2 :: obS (α := cal_Span) 48 v161 x160.1 :: []) := Hp.front hH (i := 3) rfl
                obtain ⟨x217, hx217, h186⟩ := Option.bind_eq_some_iff.1 h186
                refine V_call Try.call46 rfl rfl rfl rfl (level_Explain_1_c w212 hB hA x194.to_ 1 s42 b11 x209.1 b62 x209.2 b56 v210 hH hx217) ?_
                rintro _ w220 ⟨v218, A221, rfl, hH222, ht223⟩
                replace h_cals := Sl.tr h_cals ht223
                replace h73 := Sl.tr h73 ht223
                replace h205 := El.tr h205 ht223
                replace h216 := El.tr h216 ht223
                replace hK := Tr.trans hK ht223
                replace hr76 := Tr.trans hr76 ht223
                replace hr102 := Tr.trans hr102 ht223
                replace hr170 := Tr.trans hr170 ht223
                replace hB := Nat.le_trans hB ht223.ex.size
                replace hA := ht223.new
                replace hH : Hp w.heap.size A221 w220 (obC b11 [.int .i64 s42] 3 :: obC b62 [.int .i64 x217.1] 3 :: obC b56 [v218] 43 :: obS (α := level_Part) 50 v218 x217.2 :: obS (α := cal_Span) 48 v161 x160.1 :: []) := hH222
                refine V_to (fun _ _ => rfl) ?_
                refine C_region ?_
                refine V_y (Y_addI rfl rfl) rfl rfl rfl ?_
                refine V_y (Y_move rfl) rfl rfl rfl ?_
                obtain rfl := Option.some.inj h186
                refine V_end (fun a ha224 => ?_)
                replace hH : Hp w.heap.size A221 w220 (obS (α := level_Part) 50 v218 x217.2 :: obC b11 [.int .i64 s42] 3 :: obC b62 [.int .i64 x217.1] 3 :: obC b56 [v218] 43 :: obS (α := cal_Span) 48 v161 x160.1 :: []) := Hp.front hH (i := 3) rfl
                replace hH : Hp w.heap.size A221 w220 (obC b56 [v218] 43 :: obS (α := level_Part) 50 v218 x217.2 :: obC b11 [.int .i64 s42] 3 :: obC b62 [.int .i64 x217.1] 3 :: obS (α := cal_Span) 48 v161 x160.1 :: []) := Hp.front hH (i := 3) rfl
                replace hH : Hp w.heap.size A221 w220 (obC b62 [.int .i64 x217.1] 3 :: obC b56 [v218] 43 :: obS (α := level_Part) 50 v218 x217.2 :: obC b11 [.int .i64 s42] 3 :: obS (α := cal_Span) 48 v161 x160.1 :: []) := Hp.front hH (i := 3) rfl
                replace hH : Hp w.heap.size A221 w220 (obC b11 [.int .i64 s42] 3 :: obC b62 [.int .i64 x217.1] 3 :: obC b56 [v218] 43 :: obS (α := level_Part) 50 v218 x217.2 :: obS (α := cal_Span) 48 v161 x160.1 :: []) := Hp.front hH (i := 3) rfl
                replace hH : Hp w.heap.size A221 w220 (obS (α := cal_Span) 48 v161 x160.1 :: obC b11 [.int .i64 s42] 3 :: obC b62 [.int .i64 x217.1] 3 :: obC b56 [v218] 43 :: obS (α := level_Part) 50 v218 x217.2 :: []) := Hp.front hH (i := 4) rfl
                exact ⟨(x217.1, x217.2), hlt189, h187, ⟨(v218, A221), ha224.sub ⟨rfl, rfl, rfl, rfl, rfl, rfl, rfl, rfl, rfl, rfl, (congrArg (fun z => some (Value.int .i64 z)) (w64_succ hlt189 hn192)), trivial⟩, ⟨hH, hr170⟩⟩⟩
              · refine C_exit (fun a ha225 => ?_)
                exact ⟨((s179.1, s179.2), v181, A183), ha225.sub ⟨rfl, rfl, rfl, rfl, rfl, rfl, rfl, rfl, trivial⟩, ⟨(h190 (eq_of_dec hle188 hc193)).symm, hH, hr170⟩⟩
            rintro ⟨s169, v175, A177⟩ w172 ⟨rfl, hH178, hk173⟩ a ha174
            rw [Lp.andThen_fin] at ho100
            replace h_cals := Sl.tr h_cals hk173
            replace h73 := Sl.tr h73 hk173
            replace hK := Tr.trans hK hk173
            replace hr76 := Tr.trans hr76 hk173
            replace hr102 := Tr.trans hr102 hk173
            replace hB := Nat.le_trans hB hk173.ex.size
            replace hA := hk173.new
            replace hH : Hp w.heap.size A177 w172 (obS (α := cal_Span) 48 v161 x160.1 :: obC b11 [.int .i64 s42] 3 :: obC b62 [.int .i64 s169.1] 3 :: obC b56 [v175] 43 :: obS (α := level_Part) 50 v175 s169.2 :: []) := hH178
            refine C_at (n := ⟨100, [], none⟩) (fun _ _ => rfl) ?_ ha174
            refine C_region ?_
            refine V_y (Y_move rfl) rfl rfl rfl ?_
            refine V_y (Y_move rfl) rfl rfl rfl ?_
            replace hH : Hp w.heap.size A177 w172 (obS (α := level_Part) 50 v175 s169.2 :: obS (α := cal_Span) 48 v161 x160.1 :: obC b11 [.int .i64 s42] 3 :: obC b62 [.int .i64 s169.1] 3 :: obC b56 [v175] 43 :: []) := Hp.front hH (i := 4) rfl
            replace hH : Hp w.heap.size A177 w172 (obC b56 [v175] 43 :: obS (α := level_Part) 50 v175 s169.2 :: obS (α := cal_Span) 48 v161 x160.1 :: obC b11 [.int .i64 s42] 3 :: obC b62 [.int .i64 s169.1] 3 :: []) := Hp.front hH (i := 4) rfl
            replace hH : Hp w.heap.size A177 w172 (obC b62 [.int .i64 s169.1] 3 :: obC b56 [v175] 43 :: obS (α := level_Part) 50 v175 s169.2 :: obS (α := cal_Span) 48 v161 x160.1 :: obC b11 [.int .i64 s42] 3 :: []) := Hp.front hH (i := 4) rfl
            replace hH : Hp w.heap.size A177 w172 (obC b11 [.int .i64 s42] 3 :: obC b62 [.int .i64 s169.1] 3 :: obC b56 [v175] 43 :: obS (α := level_Part) 50 v175 s169.2 :: obS (α := cal_Span) 48 v161 x160.1 :: []) := Hp.front hH (i := 4) rfl
            obtain ⟨x227, hx227, ho100⟩ := Option.bind_eq_some_iff.1 ho100
            refine V_call Try.call46 rfl rfl rfl rfl (level_Explain_1_c w172 hB hA (if s42 < s125 then s42 else s125) 2 s42 b11 s169.1 b62 s169.2 b56 v175 hH hx227) ?_
            rintro _ w230 ⟨v228, A231, rfl, hH232, ht233⟩
            replace h_cals := Sl.tr h_cals ht233
            replace h73 := Sl.tr h73 ht233
            replace hK := Tr.trans hK ht233
            replace hr76 := Tr.trans hr76 ht233
            replace hr102 := Tr.trans hr102 ht233
            replace hB := Nat.le_trans hB ht233.ex.size
            replace hA := ht233.new
            replace hH : Hp w.heap.size A231 w230 (obC b11 [.int .i64 s42] 3 :: obC b62 [.int .i64 x227.1] 3 :: obC b56 [v228] 43 :: obS (α := level_Part) 50 v228 x227.2 :: obS (α := cal_Span) 48 v161 x160.1 :: []) := hH232
            obtain rfl := Option.some.inj ho100
            refine V_end (fun a ha234 => ?_)
            replace hH : Hp w.heap.size A231 w230 (obC b56 [v228] 43 :: obC b11 [.int .i64 s42] 3 :: obC b62 [.int .i64 x227.1] 3 :: obS (α := level_Part) 50 v228 x227.2 :: obS (α := cal_Span) 48 v161 x160.1 :: []) := Hp.front hH (i := 2) rfl
            replace hH : Hp w.heap.size A231 w230 (obC b62 [.int .i64 x227.1] 3 :: obC b56 [v228] 43 :: obC b11 [.int .i64 s42] 3 :: obS (α := level_Part) 50 v228 x227.2 :: obS (α := cal_Span) 48 v161 x160.1 :: []) := Hp.front hH (i := 2) rfl
            replace hH : Hp w.heap.size A231 w230 (obS (α := level_Part) 50 v228 x227.2 :: obC b62 [.int .i64 x227.1] 3 :: obC b56 [v228] 43 :: obC b11 [.int .i64 s42] 3 :: obS (α := cal_Span) 48 v161 x160.1 :: []) := Hp.front hH (i := 3) rfl
            replace hH : Hp w.heap.size A231 w230 (obS (α := level_Part) 50 v228 x227.2 :: obC b62 [.int .i64 x227.1] 3 :: obC b56 [v228] 43 :: obC b11 [.int .i64 s42] 3 :: []) := Hp.drop hH (i := 4) rfl
            exact ⟨(v228, A231), ha234.sub ⟨rfl, rfl, rfl, rfl, rfl, rfl, rfl, trivial⟩, ⟨hH, hr102⟩⟩
        rintro ⟨v103, A108⟩ w105 ⟨hH109, hk106⟩ a ha107
        replace h_cals := Sl.tr h_cals hk106
        replace h73 := Sl.tr h73 hk106
        replace hK := Tr.trans hK hk106
        replace hr76 := Tr.trans hr76 hk106
        replace hB := Nat.le_trans hB hk106.ex.size
        replace hA := hk106.new
        replace hH : Hp w.heap.size A108 w105 (obS (α := level_Part) 50 v103 s101.2 :: obC b62 [.int .i64 s101.1] 3 :: obC b56 [v103] 43 :: obC b11 [.int .i64 s42] 3 :: []) := hH109
        refine C_at (n := ⟨100, [], none⟩) (fun _ _ => rfl) ?_ ha107
        refine C_region ?_
        refine V_y (Y_addI rfl rfl) rfl rfl rfl ?_
        refine V_y (Y_move rfl) rfl rfl rfl ?_
        obtain rfl := Option.some.inj h92
        refine V_end (fun a ha235 => ?_)
        exact ⟨(s101.1, s101.2), hlt95, h93, ⟨(v103, A108), ha235.sub ⟨rfl, rfl, rfl, rfl, rfl, rfl, (congrArg (fun z => some (Value.int .i64 z)) (w64_succ hlt95 hn98)), trivial⟩, ⟨hH, hr76⟩⟩⟩
      · refine C_exit (fun a ha236 => ?_)
        exact ⟨((s85.1, s85.2), v87, A89), ha236.sub ⟨rfl, rfl, rfl, trivial⟩, ⟨(h96 (eq_of_dec hle94 hc99)).symm, hH, hr76⟩⟩
    rintro ⟨s75, v81, A83⟩ w78 ⟨rfl, hH84, hk79⟩ a ha80
    rw [Lp.andThen_fin] at hm
    replace hK := Tr.trans hK hk79
    replace hB := Nat.le_trans hB hk79.ex.size
    replace hA := hk79.new
    replace hH : Hp w.heap.size A83 w78 (obS (α := level_Part) 50 v81 s75.2 :: obC b62 [.int .i64 s75.1] 3 :: obC b56 [v81] 43 :: obC b11 [.int .i64 s42] 3 :: []) := hH84
    refine C_at (n := ⟨100, [], none⟩) (fun _ _ => rfl) ?_ ha80
    refine C_seq ?_
    refine C_region ?_
    refine V_y (Y_move rfl) rfl rfl rfl ?_
    refine V_y (Y_load (Hp.cell (j := 0) hH (i := 3) rfl rfl) Try.isAgg3 rfl) rfl rfl rfl ?_
    replace hH : Hp w.heap.size A83 w78 (obC b56 [v81] 43 :: obS (α := level_Part) 50 v81 s75.2 :: obC b62 [.int .i64 s75.1] 3 :: obC b11 [.int .i64 s42] 3 :: []) := Hp.front hH (i := 2) rfl
    replace hH : Hp w.heap.size A83 w78 (obC b62 [.int .i64 s75.1] 3 :: obC b56 [v81] 43 :: obS (α := level_Part) 50 v81 s75.2 :: obC b11 [.int .i64 s42] 3 :: []) := Hp.front hH (i := 2) rfl
    replace hH : Hp w.heap.size A83 w78 (obC b11 [.int .i64 s42] 3 :: obC b62 [.int .i64 s75.1] 3 :: obC b56 [v81] 43 :: obS (α := level_Part) 50 v81 s75.2 :: []) := Hp.front hH (i := 3) rfl
    obtain ⟨x238, hx238, hm⟩ := Option.bind_eq_some_iff.1 hm
    refine V_call Try.call46 rfl rfl rfl rfl (level_Explain_1_c w78 hB hA s42 3 s42 b11 s75.1 b62 s75.2 b56 v81 hH hx238) ?_
    rintro _ w241 ⟨v239, A242, rfl, hH243, ht244⟩
    replace hK := Tr.trans hK ht244
    replace hB := Nat.le_trans hB ht244.ex.size
    replace hA := ht244.new
    replace hH : Hp w.heap.size A242 w241 (obC b11 [.int .i64 s42] 3 :: obC b62 [.int .i64 x238.1] 3 :: obC b56 [v239] 43 :: obS (α := level_Part) 50 v239 x238.2 :: []) := hH243
    refine V_to (fun _ _ => rfl) ?_
    refine C_seq ?_
    refine C_region ?_
    refine V_y (Y_load (Hp.cell (j := 0) hH (i := 2) rfl rfl) Try.isAgg43 rfl) rfl rfl rfl ?_
    refine V_y (Y_assign rfl) rfl rfl rfl ?_
    refine V_y (Y_assign rfl) rfl rfl rfl ?_
    refine V_to (fun _ _ => rfl) ?_
    obtain rfl := Option.some.inj hm
    refine C_ret ?_
    try simp only [↓inBlock_ret, ↓then_ret]
    exact retQ rfl (Res.two Try.results19 rfl rfl) ⟨v239, rfl, (Hp.ownd hH (i := 3) rfl), hK.kp⟩

set_option maxRecDepth 4000 in
set_option maxHeartbeats 4000000 in
theorem portref2_IsMoment_c (w : World) (m : Int) : Ret Try.prog 33 #[.int .i64 m] w fun v w' => v = .bool (portref2_IsMoment m) ∧ w = w' := by
  generalize hm : portref2_IsMoment m = r
  unfold portref2_IsMoment at hm
  refine enter Try.func33 rfl Try.ntmps33 rfl ?_
  refine C_seq ?_
  refine C_region ?_
  refine V_y (Y_assign rfl) rfl rfl rfl ?_
  refine V_to (fun _ _ => rfl) ?_
  refine C_seq ?_
  refine C_region ?_
  refine V_y (Y_move rfl) rfl rfl rfl ?_
  refine V_y (Y_geq rfl rfl) rfl rfl rfl ?_
  refine V_y (Y_move rfl) rfl rfl rfl ?_
  refine V_cut 3 (fun _ : Unit => [(8, .bool ((decide ((0 : Int) ≤ m)) && (decide (m ≤ 3000000))))]) (fun _ w' => w = w') ?_ ?_
  · simp only [List.take, List.drop]
    rcases Bool.eq_false_or_eq_true (decide ((0 : Int) ≤ m)) with hc1 | hc1
    · refine V_ge rfl rfl rfl hc1 ?_
      refine V_y (Y_move rfl) rfl rfl rfl ?_
      refine V_ge rfl rfl rfl hc1 ?_
      refine V_y (Y_leq rfl rfl) rfl rfl rfl ?_
      refine V_y (Y_pick_te rfl hc1 rfl) rfl rfl rfl ?_
      exact V_end fun a ha => ⟨(), ha.sub ⟨(by rw [hc1]; rfl), trivial⟩, rfl⟩
    · refine V_gn rfl rfl rfl hc1 rfl rfl rfl ?_
      refine V_gn rfl rfl rfl hc1 rfl rfl rfl ?_
      refine V_y (Y_pick_fe rfl hc1 rfl) rfl rfl rfl ?_
      exact V_end fun a ha => ⟨(), ha.sub ⟨(by rw [hc1]; rfl), trivial⟩, rfl⟩
  simp only [List.take, List.drop]
  rintro _ _ rfl
  refine V_y (Y_assign rfl) rfl rfl rfl ?_
  refine V_to (fun _ _ => rfl) ?_
  obtain rfl := hm
  refine C_ret ?_
  try simp only [↓inBlock_ret, ↓then_ret]
  exact retQ rfl (Res.one Try.results33 rfl) ⟨rfl, rfl⟩

set_option maxRecDepth 4000 in
set_option maxHeartbeats 4000000 in
theorem portref2_ClockFault_c (w : World) {A : Nat → Prop} (hA : ∀ b, w.heap.size ≤ b → A b) (c : level_Clock) (v_c : Value) (h_c : Sl A w v_c c.pieces) {r : Int} (hm : portref2_ClockFault c = some r) : Ret Try.prog 68 #[.agg #[.int .i64 c.kind, .int .i64 c.level, .int .i64 c.minutes, .int .i64 c.start, .int .i64 c.stop, .int .i64 c.end_, v_c]] w fun v w' => v = .int .i64 r ∧ Kp w w' := by
  unfold portref2_ClockFault at hm
  refine enter Try.func68 rfl Try.ntmps68 rfl ?_
  have hA0 := hA
  have hB := Nat.le_refl w.heap.size
  have hK : Tr w.heap.size A w A w := Tr.refl hA
  have hH : Hp w.heap.size A w [] := Hp.nil
  refine C_seq ?_
  refine C_region ?_
  refine V_box rfl rfl ?_
  intro b3 w4 h5
  have hk7 := h5.kp
  have h6 : El (α := level_Clock) A w4 b3 0 c := h5.el hA ⟨[.int .i64 c.kind], _, rfl, rfl, ⟨[.int .i64 c.level], _, rfl, rfl, ⟨[.int .i64 c.minutes], _, rfl, rfl, ⟨[.int .i64 c.start], _, rfl, rfl, ⟨[.int .i64 c.stop], _, rfl, rfl, ⟨[.int .i64 c.end_], _, rfl, rfl, ⟨_, rfl, h_c⟩⟩⟩⟩⟩⟩⟩
  have ht8 := Kp.tr hk7 hA hB
  replace hH := Hp.kp hH hk7
  replace h_c := Sl.tr h_c ht8
  replace hK := Tr.trans hK ht8
  replace hB := Nat.le_trans hB ht8.ex.size
  replace hA := ht8.new
  refine V_y (Y_assign rfl) rfl rfl rfl ?_
  refine V_to (fun _ _ => rfl) ?_
  refine C_seq ?_
  refine C_seq ?_
  refine C_region ?_
  have h9 := El_level_Clock_0 h6
  refine V_y (Y_fieldAddr Try.underlying35 rfl Try.sizeOf3 (by decide) rfl) rfl rfl rfl ?_
  refine V_y (Y_load (El.int h9) Try.isAgg3 rfl) rfl rfl rfl ?_
  refine V_y (Y_lss rfl rfl) rfl rfl rfl ?_
  refine V_y (Y_move rfl) rfl rfl rfl ?_
  refine V_cut 4 (fun _ : Unit => [(1, .pointer (some ⟨b3, 0, none⟩)), (12, .bool ((decide (c.kind < 1)) || (decide ((3 : Int) < c.kind))))]) (fun _ w' => w4 = w') ?_ ?_
  · simp only [List.take, List.drop]
    rcases Bool.eq_false_or_eq_true (decide (c.kind < 1)) with hc10 | hc10
    · refine V_gn rfl rfl rfl hc10 rfl rfl rfl ?_
      refine V_gn rfl rfl rfl hc10 rfl rfl rfl ?_
      refine V_gn rfl rfl rfl hc10 rfl rfl rfl ?_
      refine V_y (Y_pick_te rfl hc10 rfl) rfl rfl rfl ?_
      exact V_end fun a ha => ⟨(), ha.sub ⟨rfl, (by rw [hc10]; rfl), trivial⟩, rfl⟩
    · refine V_ge rfl rfl rfl hc10 ?_
      have h12 := El_level_Clock_0 h6
      refine V_y (Y_fieldAddr Try.underlying35 rfl Try.sizeOf3 (by decide) rfl) rfl rfl rfl ?_
      refine V_ge rfl rfl rfl hc10 ?_
      refine V_y (Y_load (El.int h12) Try.isAgg3 rfl) rfl rfl rfl ?_
      refine V_ge rfl rfl rfl hc10 ?_
      refine V_y (Y_gtr rfl rfl) rfl rfl rfl ?_
      refine V_y (Y_pick_fe rfl hc10 rfl) rfl rfl rfl ?_
      exact V_end fun a ha => ⟨(), ha.sub ⟨rfl, (by rw [hc10]; rfl), trivial⟩, rfl⟩
  simp only [List.take, List.drop]
  rintro _ _ rfl
  refine V_y (Y_move rfl) rfl rfl rfl ?_
  refine V_cut 4 (fun _ : Unit => [(1, .pointer (some ⟨b3, 0, none⟩)), (17, .bool (((decide (c.kind < 1)) || (decide ((3 : Int) < c.kind))) || (decide (c.level < 0))))]) (fun _ w' => w4 = w') ?_ ?_
  · simp only [List.take, List.drop]
    rcases Bool.eq_false_or_eq_true (((decide (c.kind < 1)) || (decide ((3 : Int) < c.kind)))) with hc13 | hc13
    · refine V_gn rfl rfl rfl hc13 rfl rfl rfl ?_
      refine V_gn rfl rfl rfl hc13 rfl rfl rfl ?_
      refine V_gn rfl rfl rfl hc13 rfl rfl rfl ?_
      refine V_y (Y_pick_te rfl hc13 rfl) rfl rfl rfl ?_
      exact V_end fun a ha => ⟨(), ha.sub ⟨rfl, (by rw [hc13]; rfl), trivial⟩, rfl⟩
    · refine V_ge rfl rfl rfl hc13 ?_
      have h15 := El_level_Clock_1 h6
      refine V_y (Y_fieldAddr Try.underlying35 rfl Try.sizeOf3 (by decide) rfl) rfl rfl rfl ?_
      refine V_ge rfl rfl rfl hc13 ?_
      refine V_y (Y_load (El.int h15) Try.isAgg3 rfl) rfl rfl rfl ?_
      refine V_ge rfl rfl rfl hc13 ?_
      refine V_y (Y_lss rfl rfl) rfl rfl rfl ?_
      refine V_y (Y_pick_fe rfl hc13 rfl) rfl rfl rfl ?_
      exact V_end fun a ha => ⟨(), ha.sub ⟨rfl, (by rw [hc13]; rfl), trivial⟩, rfl⟩
  simp only [List.take, List.drop]
  rintro _ _ rfl
  refine V_y (Y_move rfl) rfl rfl rfl ?_
  refine V_cut 4 (fun _ : Unit => [(1, .pointer (some ⟨b3, 0, none⟩)), (22, .bool ((((decide (c.kind < 1)) || (decide ((3 : Int) < c.kind))) || (decide (c.level < 0))) || (decide ((20 : Int) ≤ c.level))))]) (fun _ w' => w4 = w') ?_ ?_
  · simp only [List.take, List.drop]
    rcases Bool.eq_false_or_eq_true ((((decide (c.kind < 1)) || (decide ((3 : Int) < c.kind))) || (decide (c.level < 0)))) with hc16 | hc16
    · refine V_gn rfl rfl rfl hc16 rfl rfl rfl ?_
      refine V_gn rfl rfl rfl hc16 rfl rfl rfl ?_
      refine V_gn rfl rfl rfl hc16 rfl rfl rfl ?_
      refine V_y (Y_pick_te rfl hc16 rfl) rfl rfl rfl ?_
      exact V_end fun a ha => ⟨(), ha.sub ⟨rfl, (by rw [hc16]; rfl), trivial⟩, rfl⟩
    · refine V_ge rfl rfl rfl hc16 ?_
      have h18 := El_level_Clock_1 h6
      refine V_y (Y_fieldAddr Try.underlying35 rfl Try.sizeOf3 (by decide) rfl) rfl rfl rfl ?_
      refine V_ge rfl rfl rfl hc16 ?_
      refine V_y (Y_load (El.int h18) Try.isAgg3 rfl) rfl rfl rfl ?_
      refine V_ge rfl rfl rfl hc16 ?_
      refine V_y (Y_geq rfl rfl) rfl rfl rfl ?_
      refine V_y (Y_pick_fe rfl hc16 rfl) rfl rfl rfl ?_
      exact V_end fun a ha => ⟨(), ha.sub ⟨rfl, (by rw [hc16]; rfl), trivial⟩, rfl⟩
  simp only [List.take, List.drop]
  rintro _ _ rfl
  refine V_y (Y_move rfl) rfl rfl rfl ?_
  refine V_cut 4 (fun _ : Unit => [(1, .pointer (some ⟨b3, 0, none⟩)), (27, .bool (((((decide (c.kind < 1)) || (decide ((3 : Int) < c.kind))) || (decide (c.level < 0))) || (decide ((20 : Int) ≤ c.level))) || (decide (c.minutes < 0))))]) (fun _ w' => w4 = w') ?_ ?_
  · simp only [List.take, List.drop]
    rcases Bool.eq_false_or_eq_true (((((decide (c.kind < 1)) || (decide ((3 : Int) < c.kind))) || (decide (c.level < 0))) || (decide ((20 : Int) ≤ c.level)))) with hc19 | hc19
    · refine V_gn rfl rfl rfl hc19 rfl rfl rfl ?_
      refine V_gn rfl rfl rfl hc19 rfl rfl rfl ?_
      refine V_gn rfl rfl rfl hc19 rfl rfl rfl ?_
      refine V_y (Y_pick_te rfl hc19 rfl) rfl rfl rfl ?_
      exact V_end fun a ha => ⟨(), ha.sub ⟨rfl, (by rw [hc19]; rfl), trivial⟩, rfl⟩
    · refine V_ge rfl rfl rfl hc19 ?_
      have h21 := El_level_Clock_2 h6
      refine V_y (Y_fieldAddr Try.underlying35 rfl Try.sizeOf3 (by decide) rfl) rfl rfl rfl ?_
      refine V_ge rfl rfl rfl hc19 ?_
      refine V_y (Y_load (El.int h21) Try.isAgg3 rfl) rfl rfl rfl ?_
      refine V_ge rfl rfl rfl hc19 ?_
      refine V_y (Y_lss rfl rfl) rfl rfl rfl ?_
      refine V_y (Y_pick_fe rfl hc19 rfl) rfl rfl rfl ?_
      exact V_end fun a ha => ⟨(), ha.sub ⟨rfl, (by rw [hc19]; rfl), trivial⟩, rfl⟩
  simp only [List.take, List.drop]
  rintro _ _ rfl
  refine V_y (Y_move rfl) rfl rfl rfl ?_
  refine V_cut 4 (fun _ : Unit => [(1, .pointer (some ⟨b3, 0, none⟩)), (32, .bool ((((((decide (c.kind < 1)) || (decide ((3 : Int) < c.kind))) || (decide (c.level < 0))) || (decide ((20 : Int) ≤ c.level))) || (decide (c.minutes < 0))) || (decide ((100000 : Int) < c.minutes))))]) (fun _ w' => w4 = w') ?_ ?_
  · simp only [List.take, List.drop]
    rcases Bool.eq_false_or_eq_true ((((((decide (c.kind < 1)) || (decide ((3 : Int) < c.kind))) || (decide (c.level < 0))) || (decide ((20 : Int) ≤ c.level))) || (decide (c.minutes < 0)))) with hc22 | hc22
    · refine V_gn rfl rfl rfl hc22 rfl rfl rfl ?_
      refine V_gn rfl rfl rfl hc22 rfl rfl rfl ?_
      refine V_gn rfl rfl rfl hc22 rfl rfl rfl ?_
      refine V_y (Y_pick_te rfl hc22 rfl) rfl rfl rfl ?_
      exact V_end fun a ha => ⟨(), ha.sub ⟨rfl, (by rw [hc22]; rfl), trivial⟩, rfl⟩
    · refine V_ge rfl rfl rfl hc22 ?_
      have h24 := El_level_Clock_2 h6
      refine V_y (Y_fieldAddr Try.underlying35 rfl Try.sizeOf3 (by decide) rfl) rfl rfl rfl ?_
      refine V_ge rfl rfl rfl hc22 ?_
      refine V_y (Y_load (El.int h24) Try.isAgg3 rfl) rfl rfl rfl ?_
      refine V_ge rfl rfl rfl hc22 ?_
      refine V_y (Y_gtr rfl rfl) rfl rfl rfl ?_
      refine V_y (Y_pick_fe rfl hc22 rfl) rfl rfl rfl ?_
      exact V_end fun a ha => ⟨(), ha.sub ⟨rfl, (by rw [hc22]; rfl), trivial⟩, rfl⟩
  simp only [List.take, List.drop]
  rintro _ _ rfl
  refine V_y (Y_move rfl) rfl rfl rfl ?_
  refine V_cut 5 (fun _ : Unit => [(1, .pointer (some ⟨b3, 0, none⟩)), (38, .bool (((((((decide (c.kind < 1)) || (decide ((3 : Int) < c.kind))) || (decide (c.level < 0))) || (decide ((20 : Int) ≤ c.level))) || (decide (c.minutes < 0))) || (decide ((100000 : Int) < c.minutes))) || (!(portref2_IsMoment c.start))))]) (fun _ w' => w4 = w') ?_ ?_
  · simp only [List.take, List.drop]
    rcases Bool.eq_false_or_eq_true (((((((decide (c.kind < 1)) || (decide ((3 : Int) < c.kind))) || (decide (c.level < 0))) || (decide ((20 : Int) ≤ c.level))) || (decide (c.minutes < 0))) || (decide ((100000 : Int) < c.minutes)))) with hc25 | hc25
    · refine V_gn rfl rfl rfl hc25 rfl rfl rfl ?_
      refine V_gn rfl rfl rfl hc25 rfl rfl rfl ?_
      refine V_gn rfl rfl rfl hc25 rfl rfl rfl ?_
      refine V_gn rfl rfl rfl hc25 rfl rfl rfl ?_
      refine V_y (Y_pick_te rfl hc25 rfl) rfl rfl rfl ?_
      exact V_end fun a ha => ⟨(), ha.sub ⟨rfl, (by rw [hc25]; rfl), trivial⟩, rfl⟩
    · refine V_ge rfl rfl rfl hc25 ?_
      have h27 := El_level_Clock_3 h6
      refine V_y (Y_fieldAddr Try.underlying35 rfl Try.sizeOf3 (by decide) rfl) rfl rfl rfl ?_
      refine V_ge rfl rfl rfl hc25 ?_
      refine V_y (Y_load (El.int h27) Try.isAgg3 rfl) rfl rfl rfl ?_
      refine V_ge rfl rfl rfl hc25 ?_
      refine V_call Try.call33 rfl rfl rfl rfl (portref2_IsMoment_c w4 c.start) ?_
      rintro _ _ ⟨rfl, rfl⟩
      refine V_ge rfl rfl rfl hc25 ?_
      refine V_y (Y_not rfl) rfl rfl rfl ?_
      refine V_y (Y_pick_fe rfl hc25 rfl) rfl rfl rfl ?_
      exact V_end fun a ha => ⟨(), ha.sub ⟨rfl, (by rw [hc25]; rfl), trivial⟩, rfl⟩
  simp only [List.take, List.drop]
  rintro _ _ rfl
  refine V_y (Y_move rfl) rfl rfl rfl ?_
  refine V_cut 17 (fun _ : Unit => [(1, .pointer (some ⟨b3, 0, none⟩)), (56, .bool ((((((((decide (c.kind < 1)) || (decide ((3 : Int) < c.kind))) || (decide (c.level < 0))) || (decide ((20 : Int) ≤ c.level))) || (decide (c.minutes < 0))) || (decide ((100000 : Int) < c.minutes))) || (!(portref2_IsMoment c.start))) || ((c.stop != (-1)) && ((!(portref2_IsMoment c.stop)) || (decide (c.stop < c.start))))))]) (fun _ w' => w4 = w') ?_ ?_
  · simp only [List.take, List.drop]
    rcases Bool.eq_false_or_eq_true ((((((((decide (c.kind < 1)) || (decide ((3 : Int) < c.kind))) || (decide (c.level < 0))) || (decide ((20 : Int) ≤ c.level))) || (decide (c.minutes < 0))) || (decide ((100000 : Int) < c.minutes))) || (!(portref2_IsMoment c.start)))) with hc28 | hc28
    · refine V_gn rfl rfl rfl hc28 rfl rfl rfl ?_
      refine V_gn rfl rfl rfl hc28 rfl rfl rfl ?_
      refine V_gn rfl rfl rfl hc28 rfl rfl rfl ?_
      refine V_gn rfl rfl rfl hc28 rfl rfl rfl ?_
      refine V_gu rfl rfl rfl rfl rfl ?_
      refine V_gu rfl rfl rfl rfl rfl ?_
      refine V_gu rfl rfl rfl rfl rfl ?_
      refine V_gu rfl rfl rfl rfl rfl ?_
      refine V_gu rfl rfl rfl rfl rfl ?_
      refine V_gu rfl rfl rfl rfl rfl ?_
      refine V_gu rfl rfl rfl rfl rfl ?_
      refine V_gu rfl rfl rfl rfl rfl ?_
      refine V_gu rfl rfl rfl rfl rfl ?_
      refine V_gu rfl rfl rfl rfl rfl ?_
      refine V_gu rfl rfl rfl rfl rfl ?_
      refine V_gn rfl rfl rfl hc28 rfl rfl rfl ?_
      refine V_y (Y_pick_te rfl hc28 rfl) rfl rfl rfl ?_
      exact V_end fun a ha => ⟨(), ha.sub ⟨rfl, (by rw [hc28]; rfl), trivial⟩, rfl⟩
    · refine V_ge rfl rfl rfl hc28 ?_
      have h30 := El_level_Clock_4 h6
      refine V_y (Y_fieldAddr Try.underlying35 rfl Try.sizeOf3 (by decide) rfl) rfl rfl rfl ?_
      refine V_ge rfl rfl rfl hc28 ?_
      refine V_y (Y_load (El.int h30) Try.isAgg3 rfl) rfl rfl rfl ?_
      refine V_ge rfl rfl rfl hc28 ?_
      refine V_y (Y_neq rfl rfl) rfl rfl rfl ?_
      refine V_ge rfl rfl rfl hc28 ?_
      refine V_y (Y_move rfl) rfl rfl rfl ?_
      refine V_cut 12 (fun _ : Unit => [(1, .pointer (some ⟨b3, 0, none⟩)), (39, .bool (((((((decide (c.kind < 1)) || (decide ((3 : Int) < c.kind))) || (decide (c.level < 0))) || (decide ((20 : Int) ≤ c.level))) || (decide (c.minutes < 0))) || (decide ((100000 : Int) < c.minutes))) || (!(portref2_IsMoment c.start)))), (55, .bool ((c.stop != (-1)) && ((!(portref2_IsMoment c.stop)) || (decide (c.stop < c.start)))))]) (fun _ w' => w4 = w') ?_ ?_
      · simp only [List.take, List.drop]
        rcases Bool.eq_false_or_eq_true (c.stop != (-1)) with hc31 | hc31
        · refine V_ge rfl rfl rfl hc31 ?_
          have h33 := El_level_Clock_4 h6
          refine V_y (Y_fieldAddr Try.underlying35 rfl Try.sizeOf3 (by decide) rfl) rfl rfl rfl ?_
          refine V_ge rfl rfl rfl hc31 ?_
          refine V_y (Y_load (El.int h33) Try.isAgg3 rfl) rfl rfl rfl ?_
          refine V_ge rfl rfl rfl hc31 ?_
          refine V_call Try.call33 rfl rfl rfl rfl (portref2_IsMoment_c w4 c.stop) ?_
          rintro _ _ ⟨rfl, rfl⟩
          refine V_ge rfl rfl rfl hc31 ?_
          refine V_y (Y_not rfl) rfl rfl rfl ?_
          refine V_ge rfl rfl rfl hc31 ?_
          refine V_y (Y_move rfl) rfl rfl rfl ?_
          refine V_cut 6 (fun _ : Unit => [(1, .pointer (some ⟨b3, 0, none⟩)), (39, .bool (((((((decide (c.kind < 1)) || (decide ((3 : Int) < c.kind))) || (decide (c.level < 0))) || (decide ((20 : Int) ≤ c.level))) || (decide (c.minutes < 0))) || (decide ((100000 : Int) < c.minutes))) || (!(portref2_IsMoment c.start)))), (43, .bool (c.stop != (-1))), (54, .bool ((!(portref2_IsMoment c.stop)) || (decide (c.stop < c.start))))]) (fun _ w' => w4 = w') ?_ ?_
          · simp only [List.take, List.drop]
            rcases Bool.eq_false_or_eq_true (!(portref2_IsMoment c.stop)) with hc34 | hc34
            · refine V_gn rfl rfl rfl hc34 rfl rfl rfl ?_
              refine V_gn rfl rfl rfl hc34 rfl rfl rfl ?_
              refine V_gn rfl rfl rfl hc34 rfl rfl rfl ?_
              refine V_gn rfl rfl rfl hc34 rfl rfl rfl ?_
              refine V_gn rfl rfl rfl hc34 rfl rfl rfl ?_
              refine V_ge rfl rfl rfl hc31 ?_
              refine V_y (Y_pick_te rfl hc34 rfl) rfl rfl rfl ?_
              exact V_end fun a ha => ⟨(), ha.sub ⟨rfl, rfl, rfl, (by rw [hc34]; rfl), trivial⟩, rfl⟩
            · refine V_ge rfl rfl rfl hc34 ?_
              have h36 := El_level_Clock_4 h6
              refine V_y (Y_fieldAddr Try.underlying35 rfl Try.sizeOf3 (by decide) rfl) rfl rfl rfl ?_
              refine V_ge rfl rfl rfl hc34 ?_
              refine V_y (Y_load (El.int h36) Try.isAgg3 rfl) rfl rfl rfl ?_
              refine V_ge rfl rfl rfl hc34 ?_
              have h37 := El_level_Clock_3 h6
              refine V_y (Y_fieldAddr Try.underlying35 rfl Try.sizeOf3 (by decide) rfl) rfl rfl rfl ?_
              refine V_ge rfl rfl rfl hc34 ?_
              refine V_y (Y_load (El.int h37) Try.isAgg3 rfl) rfl rfl rfl ?_
              refine V_ge rfl rfl rfl hc34 ?_
              refine V_y (Y_lss rfl rfl) rfl rfl rfl ?_
              refine V_ge rfl rfl rfl hc31 ?_
              refine V_y (Y_pick_fe rfl hc34 rfl) rfl rfl rfl ?_
              exact V_end fun a ha => ⟨(), ha.sub ⟨rfl, rfl, rfl, (by rw [hc34]; rfl), trivial⟩, rfl⟩
          simp only [List.take, List.drop]
          rintro _ _ rfl
          refine V_ge rfl rfl rfl hc28 ?_
          refine V_y (Y_pick_te rfl hc31 rfl) rfl rfl rfl ?_
          exact V_end fun a ha => ⟨(), ha.sub ⟨rfl, rfl, (by rw [hc31]; rfl), trivial⟩, rfl⟩
        · refine V_gn rfl rfl rfl hc31 rfl rfl rfl ?_
          refine V_gn rfl rfl rfl hc31 rfl rfl rfl ?_
          refine V_gn rfl rfl rfl hc31 rfl rfl rfl ?_
          refine V_gn rfl rfl rfl hc31 rfl rfl rfl ?_
          refine V_gn rfl rfl rfl hc31 rfl rfl rfl ?_
          refine V_gu rfl rfl rfl rfl rfl ?_
          refine V_gu rfl rfl rfl rfl rfl ?_
          refine V_gu rfl rfl rfl rfl rfl ?_
          refine V_gu rfl rfl rfl rfl rfl ?_
          refine V_gu rfl rfl rfl rfl rfl ?_
          refine V_gn rfl rfl rfl hc31 rfl rfl rfl ?_
          refine V_ge rfl rfl rfl hc28 ?_
          refine V_y (Y_pick_fe rfl hc31 rfl) rfl rfl rfl ?_
          exact V_end fun a ha => ⟨(), ha.sub ⟨rfl, rfl, (by rw [hc31]; rfl), trivial⟩, rfl⟩
      simp only [List.take, List.drop]
      rintro _ _ rfl
      refine V_y (Y_pick_fe rfl hc28 rfl) rfl rfl rfl ?_
      exact V_end fun a ha => ⟨(), ha.sub ⟨rfl, (by rw [hc28]; rfl), trivial⟩, rfl⟩
  simp only [List.take, List.drop]
  rintro _ _ rfl
  refine V_y (Y_move rfl) rfl rfl rfl ?_
  refine V_cut 4 (fun _ : Unit => [(1, .pointer (some ⟨b3, 0, none⟩)), (61, .bool (((((((((decide (c.kind < 1)) || (decide ((3 : Int) < c.kind))) || (decide (c.level < 0))) || (decide ((20 : Int) ≤ c.level))) || (decide (c.minutes < 0))) || (decide ((100000 : Int) < c.minutes))) || (!(portref2_IsMoment c.start))) || ((c.stop != (-1)) && ((!(portref2_IsMoment c.stop)) || (decide (c.stop < c.start))))) || (decide (c.end_ < 0))))]) (fun _ w' => w4 = w') ?_ ?_
  · simp only [List.take, List.drop]
    rcases Bool.eq_false_or_eq_true (((((((((decide (c.kind < 1)) || (decide ((3 : Int) < c.kind))) || (decide (c.level < 0))) || (decide ((20 : Int) ≤ c.level))) || (decide (c.minutes < 0))) || (decide ((100000 : Int) < c.minutes))) || (!(portref2_IsMoment c.start))) || ((c.stop != (-1)) && ((!(portref2_IsMoment c.stop)) || (decide (c.stop < c.start)))))) with hc38 | hc38
    · refine V_gn rfl rfl rfl hc38 rfl rfl rfl ?_
      refine V_gn rfl rfl rfl hc38 rfl rfl rfl ?_
      refine V_gn rfl rfl rfl hc38 rfl rfl rfl ?_
      refine V_y (Y_pick_te rfl hc38 rfl) rfl rfl rfl ?_
      exact V_end fun a ha => ⟨(), ha.sub ⟨rfl, (by rw [hc38]; rfl), trivial⟩, rfl⟩
    · refine V_ge rfl rfl rfl hc38 ?_
      have h40 := El_level_Clock_5 h6
      refine V_y (Y_fieldAddr Try.underlying35 rfl Try.sizeOf3 (by decide) rfl) rfl rfl rfl ?_
      refine V_ge rfl rfl rfl hc38 ?_
      refine V_y (Y_load (El.int h40) Try.isAgg3 rfl) rfl rfl rfl ?_
      refine V_ge rfl rfl rfl hc38 ?_
      refine V_y (Y_lss rfl rfl) rfl rfl rfl ?_
      refine V_y (Y_pick_fe rfl hc38 rfl) rfl rfl rfl ?_
      exact V_end fun a ha => ⟨(), ha.sub ⟨rfl, (by rw [hc38]; rfl), trivial⟩, rfl⟩
  simp only [List.take, List.drop]
  rintro _ _ rfl
  refine V_y (Y_move rfl) rfl rfl rfl ?_
  refine V_cut 4 (fun _ : Unit => [(1, .pointer (some ⟨b3, 0, none⟩)), (66, .bool ((((((((((decide (c.kind < 1)) || (decide ((3 : Int) < c.kind))) || (decide (c.level < 0))) || (decide ((20 : Int) ≤ c.level))) || (decide (c.minutes < 0))) || (decide ((100000 : Int) < c.minutes))) || (!(portref2_IsMoment c.start))) || ((c.stop != (-1)) && ((!(portref2_IsMoment c.stop)) || (decide (c.stop < c.start))))) || (decide (c.end_ < 0))) || (decide ((2 : Int) < c.end_))))]) (fun _ w' => w4 = w') ?_ ?_
  · simp only [List.take, List.drop]
    rcases Bool.eq_false_or_eq_true ((((((((((decide (c.kind < 1)) || (decide ((3 : Int) < c.kind))) || (decide (c.level < 0))) || (decide ((20 : Int) ≤ c.level))) || (decide (c.minutes < 0))) || (decide ((100000 : Int) < c.minutes))) || (!(portref2_IsMoment c.start))) || ((c.stop != (-1)) && ((!(portref2_IsMoment c.stop)) || (decide (c.stop < c.start))))) || (decide (c.end_ < 0)))) with hc41 | hc41
    · refine V_gn rfl rfl rfl hc41 rfl rfl rfl ?_
      refine V_gn rfl rfl rfl hc41 rfl rfl rfl ?_
      refine V_gn rfl rfl rfl hc41 rfl rfl rfl ?_
      refine V_y (Y_pick_te rfl hc41 rfl) rfl rfl rfl ?_
      exact V_end fun a ha => ⟨(), ha.sub ⟨rfl, (by rw [hc41]; rfl), trivial⟩, rfl⟩
    · refine V_ge rfl rfl rfl hc41 ?_
      have h43 := El_level_Clock_5 h6
      refine V_y (Y_fieldAddr Try.underlying35 rfl Try.sizeOf3 (by decide) rfl) rfl rfl rfl ?_
      refine V_ge rfl rfl rfl hc41 ?_
      refine V_y (Y_load (El.int h43) Try.isAgg3 rfl) rfl rfl rfl ?_
      refine V_ge rfl rfl rfl hc41 ?_
      refine V_y (Y_gtr rfl rfl) rfl rfl rfl ?_
      refine V_y (Y_pick_fe rfl hc41 rfl) rfl rfl rfl ?_
      exact V_end fun a ha => ⟨(), ha.sub ⟨rfl, (by rw [hc41]; rfl), trivial⟩, rfl⟩
  simp only [List.take, List.drop]
  rintro _ _ rfl
  refine V_to (fun _ _ => rfl) ?_
  refine C_cond rfl (fun hc44 => ?_) (fun hc44 => ?_)
  · rw [if_pos hc44] at hm
    refine C_seq ?_
    refine C_region ?_
    refine V_y (Y_assign rfl) rfl rfl rfl ?_
    refine V_to (fun _ _ => rfl) ?_
    obtain rfl := Option.some.inj hm
    refine C_ret ?_
    try simp only [↓inBlock_ret, ↓then_ret]
    exact retQ rfl (Res.one Try.results68 rfl) ⟨rfl, hK.kp⟩
  · rw [if_neg (nt hc44)] at hm
    refine C_skip_to (fun _ _ => rfl) ?_
    refine C_seq ?_
    refine C_seq ?_
    refine C_region ?_
    have h45 := El_level_Clock_4 h6
    refine V_y (Y_fieldAddr Try.underlying35 rfl Try.sizeOf3 (by decide) rfl) rfl rfl rfl ?_
    refine V_y (Y_load (El.int h45) Try.isAgg3 rfl) rfl rfl rfl ?_
    refine V_y (Y_eql rfl rfl) rfl rfl rfl ?_
    have h46 := El_level_Clock_5 h6
    refine V_y (Y_fieldAddr Try.underlying35 rfl Try.sizeOf3 (by decide) rfl) rfl rfl rfl ?_
    refine V_y (Y_load (El.int h46) Try.isAgg3 rfl) rfl rfl rfl ?_
    refine V_y (Y_eql rfl rfl) rfl rfl rfl ?_
    refine V_y (Y_bneq Try.underlying4 rfl rfl) rfl rfl rfl ?_
    refine V_to (fun _ _ => rfl) ?_
    refine C_cond rfl (fun hc47 => ?_) (fun hc47 => ?_)
    · rw [if_pos hc47] at hm
      refine C_seq ?_
      refine C_region ?_
      refine V_y (Y_assign rfl) rfl rfl rfl ?_
      refine V_to (fun _ _ => rfl) ?_
      obtain rfl := Option.some.inj hm
      refine C_ret ?_
      try simp only [↓inBlock_ret, ↓then_ret]
      exact retQ rfl (Res.one Try.results68 rfl) ⟨rfl, hK.kp⟩
    · rw [if_neg (nt hc47)] at hm
      refine C_skip_to (fun _ _ => rfl) ?_
      refine C_seq ?_
      refine C_seq ?_
      refine C_region ?_
      have h48 := El_level_Clock_6 h6
      refine V_y (Y_fieldAddr Try.underlying35 rfl Try.sizeOf33 (by decide) rfl) rfl rfl rfl ?_
      obtain ⟨v49, h50, h51⟩ := El.list h48
      refine V_y (Y_load h50 Try.isAgg33 rfl) rfl rfl rfl ?_
      refine V_y (Y_lenSl h51 rfl Try.underlying33 rfl) rfl rfl rfl ?_
      refine V_y (Y_gtr rfl rfl) rfl rfl rfl ?_
      refine V_to (fun _ _ => rfl) ?_
      refine C_cond rfl (fun hc52 => ?_) (fun hc52 => ?_)
      · rw [if_pos hc52] at hm
        refine C_seq ?_
        refine C_region ?_
        refine V_y (Y_assign rfl) rfl rfl rfl ?_
        refine V_to (fun _ _ => rfl) ?_
        obtain rfl := Option.some.inj hm
        refine C_ret ?_
        try simp only [↓inBlock_ret, ↓then_ret]
        exact retQ rfl (Res.one Try.results68 rfl) ⟨rfl, hK.kp⟩
      · rw [if_neg (nt hc52)] at hm
        refine C_skip_to (fun _ _ => rfl) ?_
        refine C_seq ?_
        refine C_seq ?_
        refine C_region ?_
        have h53 := El_level_Clock_6 h6
        refine V_y (Y_fieldAddr Try.underlying35 rfl Try.sizeOf33 (by decide) rfl) rfl rfl rfl ?_
        obtain ⟨v54, h55, h56⟩ := El.list h53
        refine V_y (Y_load h55 Try.isAgg33 rfl) rfl rfl rfl ?_
        refine V_y (Y_lenSl h56 rfl Try.underlying33 rfl) rfl rfl rfl ?_
        refine V_y (Y_move rfl) rfl rfl rfl ?_
        refine V_to (fun _ _ => rfl) ?_
        have hn77 := Sl.le h56
        obtain ⟨o57, ho57, hm⟩ := Option.bind_eq_some_iff.1 hm
        refine C_cutG (ι := (Unit × (Nat → Prop))) (fun ⟨s58, A64⟩ => []) (fun ⟨s58, A64⟩ => fun w' => o57 = .fin s58 ∧ Hp w.heap.size A64 w' ([]) ∧ Tr w.heap.size A w4 A64 w') ?_ ?_
        · refine C_block ?_
          refine C_range ho57 (fun k60 _ a w' => ∃ i : (Nat → Prop), Has ⟨169, [], none⟩ a ([(1, .pointer (some ⟨b3, 0, none⟩)), (79, v54), (80, .int .i64 (c.pieces.length : Int)), (81, .int .i64 (k60 : Int))]) ∧ Hp w.heap.size i w' ([]) ∧ Tr w.heap.size A w4 i w') (fun a ha => ⟨A, ha.sub ⟨rfl, rfl, rfl, rfl, trivial⟩, ⟨hH, Tr.refl hA⟩⟩) ?_
          rintro K k60 _ a w67 ⟨A68, ha157, hH69, hr59⟩ hle73 K76 h75
          refine C_of ?_ ha157
          replace h6 := El.tr h6 hr59
          replace h56 := Sl.tr h56 hr59
          replace hK := Tr.trans hK hr59
          replace hB := Nat.le_trans hB hr59.ex.size
          replace hA := hr59.new
          replace hH : Hp w.heap.size A68 w67 ([]) := hH69
          refine C_seq (C_region (V_y (Y_lss rfl rfl) rfl rfl rfl (V_to (fun _ _ => rfl) ?_)))
          refine C_seq ?_
          refine C_cond rfl (fun hc78 => ?_) (fun hc78 => ?_)
          · have hlt74 := lt_of_dec hc78
            obtain ⟨x70, h71, h72⟩ := K76 hlt74
            refine C_skip_to (fun _ _ => rfl) ?_
            refine C_seq ?_
            refine C_block ?_
            refine C_seq ?_
            refine C_region ?_
            refine V_y (Y_move rfl) rfl rfl rfl ?_
            obtain ⟨x79, hx79, h71⟩ := Option.bind_eq_some_iff.1 h71
            refine V_indexAddr h56 hx79 Try.underlying33 Try.sizeOf64 rfl rfl rfl ?_
            intro b80 o81 h82
            obtain ⟨h83, _⟩ := El_level_Piece h82
            refine V_y (Y_loadA h83 Try.isAgg64 Try.sizeOf64 rfl) rfl rfl rfl ?_
            refine V_alloc Try.zeroValue64 rfl ?_
            intro b84 w85 h86
            refine V_y (Y_assign rfl) rfl rfl rfl ?_
            refine V_storeNew h86 Try.sizeOf64 rfl rfl rfl rfl (by exact (List.forall_mem_cons.2 ⟨rfl, (List.forall_mem_cons.2 ⟨rfl, (List.forall_mem_cons.2 ⟨rfl, (fun _ h => nomatch h)⟩)⟩)⟩)) ?_
            intro w87 h88
            have hk90 := h88.kp
            have h89 : El (α := level_Piece) A68 w87 b84 0 x79 := h88.el hA ⟨[.int .i64 x79.from_], _, rfl, rfl, ⟨[.int .i64 x79.to_], _, rfl, rfl, rfl⟩⟩
            have ht91 := Kp.tr hk90 hA hB
            replace hH := Hp.kp hH hk90
            replace h6 := El.tr h6 ht91
            replace h56 := Sl.tr h56 ht91
            replace h82 := El.tr h82 ht91
            replace hK := Tr.trans hK ht91
            replace hr59 := Tr.trans hr59 ht91
            replace hB := Nat.le_trans hB ht91.ex.size
            replace hA := ht91.new
            refine V_to (fun _ _ => rfl) ?_
            refine C_block ?_
            refine C_seq ?_
            refine C_region ?_
            have h92 := El_level_Piece_0 h89
            refine V_y (Y_fieldAddr Try.underlying64 rfl Try.sizeOf3 (by decide) rfl) rfl rfl rfl ?_
            refine V_y (Y_load (El.int h92) Try.isAgg3 rfl) rfl rfl rfl ?_
            have h93 := El_level_Clock_3 h6
            refine V_y (Y_fieldAddr Try.underlying35 rfl Try.sizeOf3 (by decide) rfl) rfl rfl rfl ?_
            refine V_y (Y_load (El.int h93) Try.isAgg3 rfl) rfl rfl rfl ?_
            refine V_y (Y_lss rfl rfl) rfl rfl rfl ?_
            refine V_y (Y_move rfl) rfl rfl rfl ?_
            refine V_cut 5 (fun _ : Unit => [(1, .pointer (some ⟨b3, 0, none⟩)), (3, .int .i64 (k60 : Int)), (4, .pointer (some ⟨b84, 0, none⟩)), (79, v54), (80, .int .i64 (c.pieces.length : Int)), (81, .int .i64 (k60 : Int)), (97, .bool ((decide (x79.from_ < c.start)) || (!(portref2_IsMoment x79.from_))))]) (fun _ w' => w87 = w') ?_ ?_
            · simp only [List.take, List.drop]
              rcases Bool.eq_false_or_eq_true (decide (x79.from_ < c.start)) with hc94 | hc94
              · refine V_gn rfl rfl rfl hc94 rfl rfl rfl ?_
                refine V_gn rfl rfl rfl hc94 rfl rfl rfl ?_
                refine V_gn rfl rfl rfl hc94 rfl rfl rfl ?_
                refine V_gn rfl rfl rfl hc94 rfl rfl rfl ?_
                refine V_y (Y_pick_te rfl hc94 rfl) rfl rfl rfl ?_
                exact V_end fun a ha => ⟨(), ha.sub ⟨rfl, rfl, rfl, rfl, rfl, rfl, (by rw [hc94]; rfl), trivial⟩, rfl⟩
              · refine V_ge rfl rfl rfl hc94 ?_
                have h96 := El_level_Piece_0 h89
                refine V_y (Y_fieldAddr Try.underlying64 rfl Try.sizeOf3 (by decide) rfl) rfl rfl rfl ?_
                refine V_ge rfl rfl rfl hc94 ?_
                refine V_y (Y_load (El.int h96) Try.isAgg3 rfl) rfl rfl rfl ?_
                refine V_ge rfl rfl rfl hc94 ?_
                refine V_call Try.call33 rfl rfl rfl rfl (portref2_IsMoment_c w87 x79.from_) ?_
                rintro _ _ ⟨rfl, rfl⟩
                refine V_ge rfl rfl rfl hc94 ?_
                refine V_y (Y_not rfl) rfl rfl rfl ?_
                refine V_y (Y_pick_fe rfl hc94 rfl) rfl rfl rfl ?_
                exact V_end fun a ha => ⟨(), ha.sub ⟨rfl, rfl, rfl, rfl, rfl, rfl, (by rw [hc94]; rfl), trivial⟩, rfl⟩
            simp only [List.take, List.drop]
            rintro _ _ rfl
            refine V_y (Y_move rfl) rfl rfl rfl ?_
            refine V_cut 4 (fun _ : Unit => [(1, .pointer (some ⟨b3, 0, none⟩)), (3, .int .i64 (k60 : Int)), (4, .pointer (some ⟨b84, 0, none⟩)), (79, v54), (80, .int .i64 (c.pieces.length : Int)), (81, .int .i64 (k60 : Int)), (102, .bool (((decide (x79.from_ < c.start)) || (!(portref2_IsMoment x79.from_))) || (decide (x79.calendar < 0))))]) (fun _ w' => w87 = w') ?_ ?_
            · simp only [List.take, List.drop]
              rcases Bool.eq_false_or_eq_true (((decide (x79.from_ < c.start)) || (!(portref2_IsMoment x79.from_)))) with hc97 | hc97
              · refine V_gn rfl rfl rfl hc97 rfl rfl rfl ?_
                refine V_gn rfl rfl rfl hc97 rfl rfl rfl ?_
                refine V_gn rfl rfl rfl hc97 rfl rfl rfl ?_
                refine V_y (Y_pick_te rfl hc97 rfl) rfl rfl rfl ?_
                exact V_end fun a ha => ⟨(), ha.sub ⟨rfl, rfl, rfl, rfl, rfl, rfl, (by rw [hc97]; rfl), trivial⟩, rfl⟩
              · refine V_ge rfl rfl rfl hc97 ?_
                have h99 := El_level_Piece_2 h89
                refine V_y (Y_fieldAddr Try.underlying64 rfl Try.sizeOf3 (by decide) rfl) rfl rfl rfl ?_
                refine V_ge rfl rfl rfl hc97 ?_
                refine V_y (Y_load (El.int h99) Try.isAgg3 rfl) rfl rfl rfl ?_
                refine V_ge rfl rfl rfl hc97 ?_
                refine V_y (Y_lss rfl rfl) rfl rfl rfl ?_
                refine V_y (Y_pick_fe rfl hc97 rfl) rfl rfl rfl ?_
                exact V_end fun a ha => ⟨(), ha.sub ⟨rfl, rfl, rfl, rfl, rfl, rfl, (by rw [hc97]; rfl), trivial⟩, rfl⟩
            simp only [List.take, List.drop]
            rintro _ _ rfl
            refine V_y (Y_move rfl) rfl rfl rfl ?_
            refine V_cut 4 (fun _ : Unit => [(1, .pointer (some ⟨b3, 0, none⟩)), (3, .int .i64 (k60 : Int)), (4, .pointer (some ⟨b84, 0, none⟩)), (79, v54), (80, .int .i64 (c.pieces.length : Int)), (81, .int .i64 (k60 : Int)), (107, .bool ((((decide (x79.from_ < c.start)) || (!(portref2_IsMoment x79.from_))) || (decide (x79.calendar < 0))) || (decide ((20 : Int) ≤ x79.calendar))))]) (fun _ w' => w87 = w') ?_ ?_
            · simp only [List.take, List.drop]
              rcases Bool.eq_false_or_eq_true ((((decide (x79.from_ < c.start)) || (!(portref2_IsMoment x79.from_))) || (decide (x79.calendar < 0)))) with hc100 | hc100
              · refine V_gn rfl rfl rfl hc100 rfl rfl rfl ?_
                refine V_gn rfl rfl rfl hc100 rfl rfl rfl ?_
                refine V_gn rfl rfl rfl hc100 rfl rfl rfl ?_
                refine V_y (Y_pick_te rfl hc100 rfl) rfl rfl rfl ?_
                exact V_end fun a ha => ⟨(), ha.sub ⟨rfl, rfl, rfl, rfl, rfl, rfl, (by rw [hc100]; rfl), trivial⟩, rfl⟩
              · refine V_ge rfl rfl rfl hc100 ?_
                have h102 := El_level_Piece_2 h89
                refine V_y (Y_fieldAddr Try.underlying64 rfl Try.sizeOf3 (by decide) rfl) rfl rfl rfl ?_
                refine V_ge rfl rfl rfl hc100 ?_
                refine V_y (Y_load (El.int h102) Try.isAgg3 rfl) rfl rfl rfl ?_
                refine V_ge rfl rfl rfl hc100 ?_
                refine V_y (Y_geq rfl rfl) rfl rfl rfl ?_
                refine V_y (Y_pick_fe rfl hc100 rfl) rfl rfl rfl ?_
                exact V_end fun a ha => ⟨(), ha.sub ⟨rfl, rfl, rfl, rfl, rfl, rfl, (by rw [hc100]; rfl), trivial⟩, rfl⟩
            simp only [List.take, List.drop]
            rintro _ _ rfl
            refine V_y (Y_move rfl) rfl rfl rfl ?_
            refine V_cut 17 (fun _ : Unit => [(1, .pointer (some ⟨b3, 0, none⟩)), (3, .int .i64 (k60 : Int)), (4, .pointer (some ⟨b84, 0, none⟩)), (79, v54), (80, .int .i64 (c.pieces.length : Int)), (81, .int .i64 (k60 : Int)), (125, .bool (((((decide (x79.from_ < c.start)) || (!(portref2_IsMoment x79.from_))) || (decide (x79.calendar < 0))) || (decide ((20 : Int) ≤ x79.calendar))) || ((x79.to_ != (-1)) && ((!(portref2_IsMoment x79.to_)) || (decide (x79.to_ ≤ x79.from_))))))]) (fun _ w' => w87 = w') ?_ ?_
            · simp only [List.take, List.drop]
              rcases Bool.eq_false_or_eq_true (((((decide (x79.from_ < c.start)) || (!(portref2_IsMoment x79.from_))) || (decide (x79.calendar < 0))) || (decide ((20 : Int) ≤ x79.calendar)))) with hc103 | hc103
              · refine V_gn rfl rfl rfl hc103 rfl rfl rfl ?_
                refine V_gn rfl rfl rfl hc103 rfl rfl rfl ?_
                refine V_gn rfl rfl rfl hc103 rfl rfl rfl ?_
                refine V_gn rfl rfl rfl hc103 rfl rfl rfl ?_
                refine V_gu rfl rfl rfl rfl rfl ?_
                refine V_gu rfl rfl rfl rfl rfl ?_
                refine V_gu rfl rfl rfl rfl rfl ?_
                refine V_gu rfl rfl rfl rfl rfl ?_
                refine V_gu rfl rfl rfl rfl rfl ?_
                refine V_gu rfl rfl rfl rfl rfl ?_
                refine V_gu rfl rfl rfl rfl rfl ?_
                refine V_gu rfl rfl rfl rfl rfl ?_
                refine V_gu rfl rfl rfl rfl rfl ?_
                refine V_gu rfl rfl rfl rfl rfl ?_
                refine V_gu rfl rfl rfl rfl rfl ?_
                refine V_gn rfl rfl rfl hc103 rfl rfl rfl ?_
                refine V_y (Y_pick_te rfl hc103 rfl) rfl rfl rfl ?_
                exact V_end fun a ha => ⟨(), ha.sub ⟨rfl, rfl, rfl, rfl, rfl, rfl, (by rw [hc103]; rfl), trivial⟩, rfl⟩
              · refine V_ge rfl rfl rfl hc103 ?_
                have h105 := El_level_Piece_1 h89
                refine V_y (Y_fieldAddr Try.underlying64 rfl Try.sizeOf3 (by decide) rfl) rfl rfl rfl ?_
                refine V_ge rfl rfl rfl hc103 ?_
                refine V_y (Y_load (El.int h105) Try.isAgg3 rfl) rfl rfl rfl ?_
                refine V_ge rfl rfl rfl hc103 ?_
                refine V_y (Y_neq rfl rfl) rfl rfl rfl ?_
                refine V_ge rfl rfl rfl hc103 ?_
                refine V_y (Y_move rfl) rfl rfl rfl ?_
                refine V_cut 12 (fun _ : Unit => [(1, .pointer (some ⟨b3, 0, none⟩)), (3, .int .i64 (k60 : Int)), (4, .pointer (some ⟨b84, 0, none⟩)), (79, v54), (80, .int .i64 (c.pieces.length : Int)), (81, .int .i64 (k60 : Int)), (108, .bool ((((decide (x79.from_ < c.start)) || (!(portref2_IsMoment x79.from_))) || (decide (x79.calendar < 0))) || (decide ((20 : Int) ≤ x79.calendar)))), (124, .bool ((x79.to_ != (-1)) && ((!(portref2_IsMoment x79.to_)) || (decide (x79.to_ ≤ x79.from_)))))]) (fun _ w' => w87 = w') ?_ ?_
                · simp only [List.take, List.drop]
                  rcases Bool.eq_false_or_eq_true (x79.to_ != (-1)) with hc106 | hc106
                  · refine V_ge rfl rfl rfl hc106 ?_
                    have h108 := El_level_Piece_1 h89
                    refine V_y (Y_fieldAddr Try.underlying64 rfl Try.sizeOf3 (by decide) rfl) rfl rfl rfl ?_
                    refine V_ge rfl rfl rfl hc106 ?_
                    refine V_y (Y_load (El.int h108) Try.isAgg3 rfl) rfl rfl rfl ?_
                    refine V_ge rfl rfl rfl hc106 ?_
                    refine V_call Try.call33 rfl rfl rfl rfl (portref2_IsMoment_c w87 x79.to_) ?_
                    rintro _ _ ⟨rfl, rfl⟩
                    refine V_ge rfl rfl rfl hc106 ?_
                    refine V_y (Y_not rfl) rfl rfl rfl ?_
                    refine V_ge rfl rfl rfl hc106 ?_
                    refine V_y (Y_move rfl) rfl rfl rfl ?_
                    refine V_cut 6 (fun _ : Unit => [(1, .pointer (some ⟨b3, 0, none⟩)), (3, .int .i64 (k60 : Int)), (4, .pointer (some ⟨b84, 0, none⟩)), (79, v54), (80, .int .i64 (c.pieces.length : Int)), (81, .int .i64 (k60 : Int)), (108, .bool ((((decide (x79.from_ < c.start)) || (!(portref2_IsMoment x79.from_))) || (decide (x79.calendar < 0))) || (decide ((20 : Int) ≤ x79.calendar)))), (112, .bool (x79.to_ != (-1))), (123, .bool ((!(portref2_IsMoment x79.to_)) || (decide (x79.to_ ≤ x79.from_))))]) (fun _ w' => w87 = w') ?_ ?_
                    · simp only [List.take, List.drop]
                      rcases Bool.eq_false_or_eq_true (!(portref2_IsMoment x79.to_)) with hc109 | hc109
                      · refine V_gn rfl rfl rfl hc109 rfl rfl rfl ?_
                        refine V_gn rfl rfl rfl hc109 rfl rfl rfl ?_
                        refine V_gn rfl rfl rfl hc109 rfl rfl rfl ?_
                        refine V_gn rfl rfl rfl hc109 rfl rfl rfl ?_
                        refine V_gn rfl rfl rfl hc109 rfl rfl rfl ?_
                        refine V_ge rfl rfl rfl hc106 ?_
                        refine V_y (Y_pick_te rfl hc109 rfl) rfl rfl rfl ?_
                        exact V_end fun a ha => ⟨(), ha.sub ⟨rfl, rfl, rfl, rfl, rfl, rfl, rfl, rfl, (by rw [hc109]; rfl), trivial⟩, rfl⟩
                      · refine V_ge rfl rfl rfl hc109 ?_
                        have h111 := El_level_Piece_1 h89
                        refine V_y (Y_fieldAddr Try.underlying64 rfl Try.sizeOf3 (by decide) rfl) rfl rfl rfl ?_
                        refine V_ge rfl rfl rfl hc109 ?_
                        refine V_y (Y_load (El.int h111) Try.isAgg3 rfl) rfl rfl rfl ?_
                        refine V_ge rfl rfl rfl hc109 ?_
                        have h112 := El_level_Piece_0 h89
                        refine V_y (Y_fieldAddr Try.underlying64 rfl Try.sizeOf3 (by decide) rfl) rfl rfl rfl ?_
                        refine V_ge rfl rfl rfl hc109 ?_
                        refine V_y (Y_load (El.int h112) Try.isAgg3 rfl) rfl rfl rfl ?_
                        refine V_ge rfl rfl rfl hc109 ?_
                        refine V_y (Y_leq rfl rfl) rfl rfl rfl ?_
                        refine V_ge rfl rfl rfl hc106 ?_
                        refine V_y (Y_pick_fe rfl hc109 rfl) rfl rfl rfl ?_
                        exact V_end fun a ha => ⟨(), ha.sub ⟨rfl, rfl, rfl, rfl, rfl, rfl, rfl, rfl, (by rw [hc109]; rfl), trivial⟩, rfl⟩
                    simp only [List.take, List.drop]
                    rintro _ _ rfl
                    refine V_ge rfl rfl rfl hc103 ?_
                    refine V_y (Y_pick_te rfl hc106 rfl) rfl rfl rfl ?_
                    exact V_end fun a ha => ⟨(), ha.sub ⟨rfl, rfl, rfl, rfl, rfl, rfl, rfl, (by rw [hc106]; rfl), trivial⟩, rfl⟩
                  · refine V_gn rfl rfl rfl hc106 rfl rfl rfl ?_
                    refine V_gn rfl rfl rfl hc106 rfl rfl rfl ?_
                    refine V_gn rfl rfl rfl hc106 rfl rfl rfl ?_
                    refine V_gn rfl rfl rfl hc106 rfl rfl rfl ?_
                    refine V_gn rfl rfl rfl hc106 rfl rfl rfl ?_
                    refine V_gu rfl rfl rfl rfl rfl ?_
                    refine V_gu rfl rfl rfl rfl rfl ?_
                    refine V_gu rfl rfl rfl rfl rfl ?_
                    refine V_gu rfl rfl rfl rfl rfl ?_
                    refine V_gu rfl rfl rfl rfl rfl ?_
                    refine V_gn rfl rfl rfl hc106 rfl rfl rfl ?_
                    refine V_ge rfl rfl rfl hc103 ?_
                    refine V_y (Y_pick_fe rfl hc106 rfl) rfl rfl rfl ?_
                    exact V_end fun a ha => ⟨(), ha.sub ⟨rfl, rfl, rfl, rfl, rfl, rfl, rfl, (by rw [hc106]; rfl), trivial⟩, rfl⟩
                simp only [List.take, List.drop]
                rintro _ _ rfl
                refine V_y (Y_pick_fe rfl hc103 rfl) rfl rfl rfl ?_
                exact V_end fun a ha => ⟨(), ha.sub ⟨rfl, rfl, rfl, rfl, rfl, rfl, (by rw [hc103]; rfl), trivial⟩, rfl⟩
            simp only [List.take, List.drop]
            rintro _ _ rfl
            refine V_y (Y_assign rfl) rfl rfl rfl ?_
            refine V_to (fun _ _ => rfl) ?_
            refine C_cond rfl (fun hc113 => ?_) (fun hc113 => ?_)
            · rw [if_pos hc113] at h71
              refine C_seq ?_
              refine C_region ?_
              refine V_y (Y_assign rfl) rfl rfl rfl ?_
              refine V_to (fun _ _ => rfl) ?_
              obtain rfl := Option.some.inj h71
              obtain rfl := (h72 : Lp.rt _ = _)
              rw [Lp.andThen_rt] at hm
              obtain rfl := Option.some.inj hm
              refine C_ret ?_
              try simp only [↓inBlock_ret, ↓then_ret]
              exact retQ rfl (Res.one Try.results68 rfl) ⟨rfl, hK.kp⟩
            · rw [if_neg (nt hc113)] at h71
              refine C_seq ?_
              refine C_seq ?_
              refine C_region ?_
              have h114 := El_level_Piece_1 h89
              refine V_y (Y_fieldAddr Try.underlying64 rfl Try.sizeOf3 (by decide) rfl) rfl rfl rfl ?_
              refine V_y (Y_load (El.int h114) Try.isAgg3 rfl) rfl rfl rfl ?_
              refine V_y (Y_eql rfl rfl) rfl rfl rfl ?_
              refine V_y (Y_move rfl) rfl rfl rfl ?_
              refine V_cut 12 (fun _ : Unit => [(1, .pointer (some ⟨b3, 0, none⟩)), (3, .int .i64 (k60 : Int)), (4, .pointer (some ⟨b84, 0, none⟩)), (79, v54), (80, .int .i64 (c.pieces.length : Int)), (81, .int .i64 (k60 : Int)), (142, .bool ((x79.to_ == (-1)) && ((decide ((k60 : Int) < (w64 ((c.pieces.length : Int) - 1)))) || (c.stop != (-1)))))]) (fun _ w' => w87 = w') ?_ ?_
              · simp only [List.take, List.drop]
                rcases Bool.eq_false_or_eq_true (x79.to_ == (-1)) with hc115 | hc115
                · refine V_ge rfl rfl rfl hc115 ?_
                  refine V_y (Y_move rfl) rfl rfl rfl ?_
                  refine V_ge rfl rfl rfl hc115 ?_
                  have h117 := El_level_Clock_6 h6
                  refine V_y (Y_fieldAddr Try.underlying35 rfl Try.sizeOf33 (by decide) rfl) rfl rfl rfl ?_
                  refine V_ge rfl rfl rfl hc115 ?_
                  obtain ⟨v118, h119, h120⟩ := El.list h117
                  refine V_y (Y_load h119 Try.isAgg33 rfl) rfl rfl rfl ?_
                  refine V_ge rfl rfl rfl hc115 ?_
                  refine V_y (Y_lenSl h120 rfl Try.underlying33 rfl) rfl rfl rfl ?_
                  refine V_ge rfl rfl rfl hc115 ?_
                  refine V_y (Y_subI rfl rfl) rfl rfl rfl ?_
                  refine V_ge rfl rfl rfl hc115 ?_
                  refine V_y (Y_lss rfl rfl) rfl rfl rfl ?_
                  refine V_ge rfl rfl rfl hc115 ?_
                  refine V_y (Y_move rfl) rfl rfl rfl ?_
                  refine V_cut 4 (fun _ : Unit => [(1, .pointer (some ⟨b3, 0, none⟩)), (3, .int .i64 (k60 : Int)), (4, .pointer (some ⟨b84, 0, none⟩)), (79, v54), (80, .int .i64 (c.pieces.length : Int)), (81, .int .i64 (k60 : Int)), (130, .bool (x79.to_ == (-1))), (141, .bool ((decide ((k60 : Int) < (w64 ((c.pieces.length : Int) - 1)))) || (c.stop != (-1))))]) (fun _ w' => w87 = w') ?_ ?_
                  · simp only [List.take, List.drop]
                    rcases Bool.eq_false_or_eq_true (decide ((k60 : Int) < (w64 ((c.pieces.length : Int) - 1)))) with hc121 | hc121
                    · refine V_gn rfl rfl rfl hc121 rfl rfl rfl ?_
                      refine V_gn rfl rfl rfl hc121 rfl rfl rfl ?_
                      refine V_gn rfl rfl rfl hc121 rfl rfl rfl ?_
                      refine V_ge rfl rfl rfl hc115 ?_
                      refine V_y (Y_pick_te rfl hc121 rfl) rfl rfl rfl ?_
                      exact V_end fun a ha => ⟨(), ha.sub ⟨rfl, rfl, rfl, rfl, rfl, rfl, rfl, (by rw [hc121]; rfl), trivial⟩, rfl⟩
                    · refine V_ge rfl rfl rfl hc121 ?_
                      have h123 := El_level_Clock_4 h6
                      refine V_y (Y_fieldAddr Try.underlying35 rfl Try.sizeOf3 (by decide) rfl) rfl rfl rfl ?_
                      refine V_ge rfl rfl rfl hc121 ?_
                      refine V_y (Y_load (El.int h123) Try.isAgg3 rfl) rfl rfl rfl ?_
                      refine V_ge rfl rfl rfl hc121 ?_
                      refine V_y (Y_neq rfl rfl) rfl rfl rfl ?_
                      refine V_ge rfl rfl rfl hc115 ?_
                      refine V_y (Y_pick_fe rfl hc121 rfl) rfl rfl rfl ?_
                      exact V_end fun a ha => ⟨(), ha.sub ⟨rfl, rfl, rfl, rfl, rfl, rfl, rfl, (by rw [hc121]; rfl), trivial⟩, rfl⟩
                  simp only [List.take, List.drop]
                  rintro _ _ rfl
                  refine V_y (Y_pick_te rfl hc115 rfl) rfl rfl rfl ?_
                  exact V_end fun a ha => ⟨(), ha.sub ⟨rfl, rfl, rfl, rfl, rfl, rfl, (by rw [hc115]; rfl), trivial⟩, rfl⟩
                · refine V_gn rfl rfl rfl hc115 rfl rfl rfl ?_
                  refine V_gn rfl rfl rfl hc115 rfl rfl rfl ?_
                  refine V_gn rfl rfl rfl hc115 rfl rfl rfl ?_
                  refine V_gn rfl rfl rfl hc115 rfl rfl rfl ?_
                  refine V_gn rfl rfl rfl hc115 rfl rfl rfl ?_
                  refine V_gn rfl rfl rfl hc115 rfl rfl rfl ?_
                  refine V_gn rfl rfl rfl hc115 rfl rfl rfl ?_
                  refine V_gu rfl rfl rfl rfl rfl ?_
                  refine V_gu rfl rfl rfl rfl rfl ?_
                  refine V_gu rfl rfl rfl rfl rfl ?_
                  refine V_gn rfl rfl rfl hc115 rfl rfl rfl ?_
                  refine V_y (Y_pick_fe rfl hc115 rfl) rfl rfl rfl ?_
                  exact V_end fun a ha => ⟨(), ha.sub ⟨rfl, rfl, rfl, rfl, rfl, rfl, (by rw [hc115]; rfl), trivial⟩, rfl⟩
              simp only [List.take, List.drop]
              rintro _ _ rfl
              refine V_y (Y_assign rfl) rfl rfl rfl ?_
              refine V_to (fun _ _ => rfl) ?_
              obtain ⟨s125, ho124, h71⟩ := Option.bind_eq_some_iff.1 h71
              refine C_cutG (ι := Unit) (fun (_ : Unit) => [(1, .pointer (some ⟨b3, 0, none⟩)), (3, .int .i64 (k60 : Int)), (4, .pointer (some ⟨b84, 0, none⟩)), (79, v54), (80, .int .i64 (c.pieces.length : Int)), (81, .int .i64 (k60 : Int)), (126, .bool s125)]) (fun (_ : Unit) => fun w' => w87 = w') ?_ ?_
              · refine C_cond rfl (fun hc130 => ?_) (fun hc130 => ?_)
                · rw [if_pos hc130] at ho124
                  obtain rfl := Option.some.inj ho124
                  refine C_skip (fun a ha131 => ?_)
                  exact ⟨(), ha131.sub ⟨rfl, rfl, rfl, rfl, rfl, rfl, rfl, trivial⟩, rfl⟩
                · rw [if_neg (nt hc130)] at ho124
                  refine C_region ?_
                  have h132 := El_level_Clock_4 h6
                  refine V_y (Y_fieldAddr Try.underlying35 rfl Try.sizeOf3 (by decide) rfl) rfl rfl rfl ?_
                  refine V_y (Y_load (El.int h132) Try.isAgg3 rfl) rfl rfl rfl ?_
                  refine V_y (Y_neq rfl rfl) rfl rfl rfl ?_
                  refine V_y (Y_move rfl) rfl rfl rfl ?_
                  refine V_cut 6 (fun _ : Unit => [(1, .pointer (some ⟨b3, 0, none⟩)), (3, .int .i64 (k60 : Int)), (4, .pointer (some ⟨b84, 0, none⟩)), (79, v54), (80, .int .i64 (c.pieces.length : Int)), (81, .int .i64 (k60 : Int)), (152, .bool ((c.stop != (-1)) && (decide (c.stop < x79.to_))))]) (fun _ w' => w87 = w') ?_ ?_
                  · simp only [List.take, List.drop]
                    rcases Bool.eq_false_or_eq_true (c.stop != (-1)) with hc133 | hc133
                    · refine V_ge rfl rfl rfl hc133 ?_
                      have h135 := El_level_Piece_1 h89
                      refine V_y (Y_fieldAddr Try.underlying64 rfl Try.sizeOf3 (by decide) rfl) rfl rfl rfl ?_
                      refine V_ge rfl rfl rfl hc133 ?_
                      refine V_y (Y_load (El.int h135) Try.isAgg3 rfl) rfl rfl rfl ?_
                      refine V_ge rfl rfl rfl hc133 ?_
                      have h136 := El_level_Clock_4 h6
                      refine V_y (Y_fieldAddr Try.underlying35 rfl Try.sizeOf3 (by decide) rfl) rfl rfl rfl ?_
                      refine V_ge rfl rfl rfl hc133 ?_
                      refine V_y (Y_load (El.int h136) Try.isAgg3 rfl) rfl rfl rfl ?_
                      refine V_ge rfl rfl rfl hc133 ?_
                      refine V_y (Y_gtr rfl rfl) rfl rfl rfl ?_
                      refine V_y (Y_pick_te rfl hc133 rfl) rfl rfl rfl ?_
                      exact V_end fun a ha => ⟨(), ha.sub ⟨rfl, rfl, rfl, rfl, rfl, rfl, (by rw [hc133]; rfl), trivial⟩, rfl⟩
                    · refine V_gn rfl rfl rfl hc133 rfl rfl rfl ?_
                      refine V_gn rfl rfl rfl hc133 rfl rfl rfl ?_
                      refine V_gn rfl rfl rfl hc133 rfl rfl rfl ?_
                      refine V_gn rfl rfl rfl hc133 rfl rfl rfl ?_
                      refine V_gn rfl rfl rfl hc133 rfl rfl rfl ?_
                      refine V_y (Y_pick_fe rfl hc133 rfl) rfl rfl rfl ?_
                      exact V_end fun a ha => ⟨(), ha.sub ⟨rfl, rfl, rfl, rfl, rfl, rfl, (by rw [hc133]; rfl), trivial⟩, rfl⟩
                  simp only [List.take, List.drop]
                  rintro _ _ rfl
                  refine V_y (Y_assign rfl) rfl rfl rfl ?_
                  obtain rfl := Option.some.inj ho124
                  refine V_end (fun a ha137 => ?_)
                  exact ⟨(), ha137.sub ⟨rfl, rfl, rfl, rfl, rfl, rfl, rfl, trivial⟩, rfl⟩
              rintro _ _ rfl a ha129
              refine C_at (n := ⟨169, [], none⟩) (fun _ _ => rfl) ?_ ha129
              refine C_cond rfl (fun hc138 => ?_) (fun hc138 => ?_)
              · rw [if_pos hc138] at h71
                refine C_seq ?_
                refine C_region ?_
                refine V_y (Y_assign rfl) rfl rfl rfl ?_
                refine V_to (fun _ _ => rfl) ?_
                obtain rfl := Option.some.inj h71
                obtain rfl := (h72 : Lp.rt _ = _)
                rw [Lp.andThen_rt] at hm
                obtain rfl := Option.some.inj hm
                refine C_ret ?_
                try simp only [↓inBlock_ret, ↓then_ret]
                exact retQ rfl (Res.one Try.results68 rfl) ⟨rfl, hK.kp⟩
              · rw [if_neg (nt hc138)] at h71
                refine C_seq ?_
                refine C_region_q Try_mixed (by kernel_rfl) ?_
                refine VQ_y (fun w' hw' => Y_move rfl) rfl rfl rfl ?_
                refine VQ_y (fun w' hw' => Y_gtr rfl rfl) rfl rfl rfl ?_
                refine VQ_y (fun w' hw' => Y_move rfl) rfl rfl rfl ?_
                obtain ⟨s140, hs140, h71⟩ := Option.bind_eq_some_iff.1 h71
                refine VQ_cut 11 (fun _ : Unit => [(1, .pointer (some ⟨b3, 0, none⟩)), (79, v54), (80, .int .i64 (c.pieces.length : Int)), (81, .int .i64 (k60 : Int)), (167, .bool s140)]) (fun _ => True) ?_ ?_
                · simp only [List.take, List.drop]
                  rcases Bool.eq_false_or_eq_true (decide ((0 : Int) < (k60 : Int))) with hc139 | hc139
                  · rw [if_pos hc139] at hs140
                    refine VQ_ge rfl rfl rfl hc139 ?_
                    have h141 := El_level_Piece_0 h89
                    refine VQ_y (fun w' hw' => Y_fieldAddr Try.underlying64 rfl Try.sizeOf3 (by decide) rfl) rfl rfl rfl ?_
                    refine VQ_ge rfl rfl rfl hc139 ?_
                    refine VQ_y (fun w' hw' => Y_load (El.int (El.kp h141 hw')) Try.isAgg3 rfl) rfl rfl rfl ?_
                    refine VQ_ge rfl rfl rfl hc139 ?_
                    have h142 := El_level_Clock_6 h6
                    refine VQ_y (fun w' hw' => Y_fieldAddr Try.underlying35 rfl Try.sizeOf33 (by decide) rfl) rfl rfl rfl ?_
                    refine VQ_ge rfl rfl rfl hc139 ?_
                    obtain ⟨v143, h144, h145⟩ := El.list h142
                    refine VQ_y (fun w' hw' => Y_load ((World.cell?_of_block (hw'.block _ (World.block_lt_of_cell? _ _ h144))).trans h144) Try.isAgg33 rfl) rfl rfl rfl ?_
                    refine VQ_ge rfl rfl rfl hc139 ?_
                    refine VQ_y (fun w' hw' => Y_move rfl) rfl rfl rfl ?_
                    refine VQ_ge rfl rfl rfl hc139 ?_
                    refine VQ_y (fun w' hw' => Y_subI rfl rfl) rfl rfl rfl ?_
                    refine VQ_ge rfl rfl rfl hc139 ?_
                    obtain ⟨x146, hx146, hs140⟩ := Option.bind_eq_some_iff.1 hs140
                    refine VQ_indexAddr h145 hx146 Try.underlying33 Try.sizeOf64 rfl rfl rfl ?_
                    intro b147 o148 h149
                    refine VQ_ge rfl rfl rfl hc139 ?_
                    have h150 := El_level_Piece_1 h149
                    refine VQ_y (fun w' hw' => Y_fieldAddr Try.underlying64 rfl Try.sizeOf3 (by decide) rfl) rfl rfl rfl ?_
                    refine VQ_ge rfl rfl rfl hc139 ?_
                    refine VQ_y (fun w' hw' => Y_load (El.int (El.kp h150 hw')) Try.isAgg3 rfl) rfl rfl rfl ?_
                    refine VQ_ge rfl rfl rfl hc139 ?_
                    refine VQ_y (fun w' hw' => Y_lss rfl rfl) rfl rfl rfl ?_
                    refine VQ_y (fun _ _ => Y_pick_te rfl hc139 rfl) rfl rfl rfl ?_
                    obtain rfl := Option.some.inj hs140
                    exact VQ_end fun a ha => ⟨(), ha.sub ⟨rfl, rfl, rfl, rfl, rfl, trivial⟩, trivial⟩
                  · rw [if_neg (nt hc139)] at hs140
                    refine VQ_gn rfl rfl rfl hc139 rfl rfl rfl ?_
                    refine VQ_gn rfl rfl rfl hc139 rfl rfl rfl ?_
                    refine VQ_gn rfl rfl rfl hc139 rfl rfl rfl ?_
                    refine VQ_gn rfl rfl rfl hc139 rfl rfl rfl ?_
                    refine VQ_gn rfl rfl rfl hc139 rfl rfl rfl ?_
                    refine VQ_gn rfl rfl rfl hc139 rfl rfl rfl ?_
                    refine VQ_gn rfl rfl rfl hc139 rfl rfl rfl ?_
                    refine VQ_gn rfl rfl rfl hc139 rfl rfl rfl ?_
                    refine VQ_gn rfl rfl rfl hc139 rfl rfl rfl ?_
                    refine VQ_gn rfl rfl rfl hc139 rfl rfl rfl ?_
                    refine VQ_y (fun _ _ => Y_pick_fe rfl hc139 rfl) rfl rfl rfl ?_
                    obtain rfl := Option.some.inj hs140
                    exact VQ_end fun a ha => ⟨(), ha.sub ⟨rfl, rfl, rfl, rfl, rfl, trivial⟩, trivial⟩
                simp only [List.take, List.drop]
                rintro _ _
                refine VQ_y (fun w' hw' => Y_assign rfl) rfl rfl rfl ?_
                refine VQ_to (fun _ _ => rfl) (fun w151 hk152 => ?_)
                have ht153 := Kp.tr hk152 hA hB
                replace hH := Hp.kp hH hk152
                replace h6 := El.tr h6 ht153
                replace h56 := Sl.tr h56 ht153
                replace hK := Tr.trans hK ht153
                replace hr59 := Tr.trans hr59 ht153
                replace hB := Nat.le_trans hB ht153.ex.size
                replace hA := ht153.new
                refine C_cond rfl (fun hc154 => ?_) (fun hc154 => ?_)
                · rw [if_pos hc154] at h71
                  refine C_seq ?_
                  refine C_region ?_
                  refine V_y (Y_assign rfl) rfl rfl rfl ?_
                  refine V_to (fun _ _ => rfl) ?_
                  obtain rfl := Option.some.inj h71
                  obtain rfl := (h72 : Lp.rt _ = _)
                  rw [Lp.andThen_rt] at hm
                  obtain rfl := Option.some.inj hm
                  refine C_ret ?_
                  try simp only [↓inBlock_ret, ↓then_ret]
                  exact retQ rfl (Res.one Try.results68 rfl) ⟨rfl, hK.kp⟩
                · rw [if_neg (nt hc154)] at h71
                  refine C_skip_to (fun _ _ => rfl) ?_
                  refine C_region ?_
                  refine V_y (Y_addI rfl rfl) rfl rfl rfl ?_
                  refine V_y (Y_move rfl) rfl rfl rfl ?_
                  obtain rfl := Option.some.inj h71
                  refine V_end (fun a ha155 => ?_)
                  exact ⟨(), hlt74, h72, ⟨A68, ha155.sub ⟨rfl, rfl, rfl, (congrArg (fun z => some (Value.int .i64 z)) (w64_succ hlt74 hn77)), trivial⟩, ⟨hH, hr59⟩⟩⟩
          · refine C_exit (fun a ha156 => ?_)
            exact ⟨((), A68), ha156.sub trivial, ⟨(h75 (eq_of_dec hle73 hc78)).symm, hH, hr59⟩⟩
        rintro ⟨s58, A64⟩ w61 ⟨rfl, hH65, hk62⟩ a ha63
        rw [Lp.andThen_fin] at hm
        replace hK := Tr.trans hK hk62
        replace hB := Nat.le_trans hB hk62.ex.size
        replace hA := hk62.new
        replace hH : Hp w.heap.size A64 w61 ([]) := hH65
        refine C_at (n := ⟨169, [], none⟩) (fun _ _ => rfl) ?_ ha63
        refine C_seq ?_
        refine C_region ?_
        refine V_y (Y_assign rfl) rfl rfl rfl ?_
        refine V_to (fun _ _ => rfl) ?_
        obtain rfl := Option.some.inj hm
        refine C_ret ?_
        try simp only [↓inBlock_ret, ↓then_ret]
        exact retQ rfl (Res.one Try.results68 rfl) ⟨rfl, hK.kp⟩

set_option maxRecDepth 4000 in
set_option maxHeartbeats 4000000 in
theorem portref2_ZoneFault_1_c (w : World) (n : Int) : Ret Try.prog 84 #[.int .i64 n] w fun v w' => v = .bool (portref2_ZoneFault_1 n) ∧ w = w' := by
  generalize hm : portref2_ZoneFault_1 n = r
  unfold portref2_ZoneFault_1 at hm
  refine enter Try.func84 rfl Try.ntmps84 rfl ?_
  refine C_seq ?_
  refine C_region ?_
  refine V_y (Y_assign rfl) rfl rfl rfl ?_
  refine V_to (fun _ _ => rfl) ?_
  refine C_seq ?_
  refine C_region ?_
  refine V_y (Y_move rfl) rfl rfl rfl ?_
  refine V_y (Y_lss rfl rfl) rfl rfl rfl ?_
  refine V_y (Y_move rfl) rfl rfl rfl ?_
  refine V_cut 3 (fun _ : Unit => [(8, .bool ((decide (n < (-1440))) || (decide ((1440 : Int) < n))))]) (fun _ w' => w = w') ?_ ?_
  · simp only [List.take, List.drop]
    rcases Bool.eq_false_or_eq_true (decide (n < (-1440))) with hc1 | hc1
    · refine V_gn rfl rfl rfl hc1 rfl rfl rfl ?_
      refine V_gn rfl rfl rfl hc1 rfl rfl rfl ?_
      refine V_y (Y_pick_te rfl hc1 rfl) rfl rfl rfl ?_
      exact V_end fun a ha => ⟨(), ha.sub ⟨(by rw [hc1]; rfl), trivial⟩, rfl⟩
    · refine V_ge rfl rfl rfl hc1 ?_
      refine V_y (Y_move rfl) rfl rfl rfl ?_
      refine V_ge rfl rfl rfl hc1 ?_
      refine V_y (Y_gtr rfl rfl) rfl rfl rfl ?_
      refine V_y (Y_pick_fe rfl hc1 rfl) rfl rfl rfl ?_
      exact V_end fun a ha => ⟨(), ha.sub ⟨(by rw [hc1]; rfl), trivial⟩, rfl⟩
  simp only [List.take, List.drop]
  rintro _ _ rfl
  refine V_y (Y_assign rfl) rfl rfl rfl ?_
  refine V_to (fun _ _ => rfl) ?_
  obtain rfl := hm
  refine C_ret ?_
  try simp only [↓inBlock_ret, ↓then_ret]
  exact retQ rfl (Res.one Try.results84 rfl) ⟨rfl, rfl⟩

set_option maxRecDepth 4000 in
set_option maxHeartbeats 4000000 in
theorem portref2_ZoneFault_c (w : World) {A : Nat → Prop} (hA : ∀ b, w.heap.size ≤ b → A b) (z : cal_Zone) (v_z : Value) (h_z : Sl A w v_z z.changes) {r : Int} (hm : portref2_ZoneFault z = some r) : Ret Try.prog 61 #[.agg #[.int .i64 z.offset, v_z]] w fun v w' => v = .int .i64 r ∧ Kp w w' := by
  unfold portref2_ZoneFault at hm
  refine enter Try.func61 rfl Try.ntmps61 rfl ?_
  have hA0 := hA
  have hB := Nat.le_refl w.heap.size
  have hK : Tr w.heap.size A w A w := Tr.refl hA
  have hH : Hp w.heap.size A w [] := Hp.nil
  refine C_seq ?_
  refine C_region ?_
  refine V_box rfl rfl ?_
  intro b3 w4 h5
  have hk7 := h5.kp
  have h6 : El (α := cal_Zone) A w4 b3 0 z := h5.el hA ⟨[.int .i64 z.offset], _, rfl, rfl, ⟨_, rfl, h_z⟩⟩
  have ht8 := Kp.tr hk7 hA hB
  replace hH := Hp.kp hH hk7
  replace h_z := Sl.tr h_z ht8
  replace hK := Tr.trans hK ht8
  replace hB := Nat.le_trans hB ht8.ex.size
  replace hA := ht8.new
  refine V_y (Y_assign rfl) rfl rfl rfl ?_
  refine V_to (fun _ _ => rfl) ?_
  refine C_seq ?_
  refine C_region ?_
  refine V_y (Y_assign rfl) rfl rfl rfl ?_
  refine V_to (fun _ _ => rfl) ?_
  refine C_seq ?_
  refine C_seq ?_
  refine C_region ?_
  refine V_y (Y_move rfl) rfl rfl rfl ?_
  have h9 := El_cal_Zone_0 h6
  refine V_y (Y_fieldAddr Try.underlying24 rfl Try.sizeOf3 (by decide) rfl) rfl rfl rfl ?_
  refine V_y (Y_load (El.int h9) Try.isAgg3 rfl) rfl rfl rfl ?_
  refine V_call Try.call84 rfl rfl rfl rfl (portref2_ZoneFault_1_c w4 z.offset) ?_
  rintro _ _ ⟨rfl, rfl⟩
  refine V_to (fun _ _ => rfl) ?_
  refine C_cond rfl (fun hc10 => ?_) (fun hc10 => ?_)
  · rw [if_pos hc10] at hm
    refine C_seq ?_
    refine C_region ?_
    refine V_y (Y_assign rfl) rfl rfl rfl ?_
    refine V_to (fun _ _ => rfl) ?_
    obtain rfl := Option.some.inj hm
    refine C_ret ?_
    try simp only [↓inBlock_ret, ↓then_ret]
    exact retQ rfl (Res.one Try.results61 rfl) ⟨rfl, hK.kp⟩
  · rw [if_neg (nt hc10)] at hm
    refine C_skip_to (fun _ _ => rfl) ?_
    refine C_seq ?_
    refine C_seq ?_
    refine C_region ?_
    have h11 := El_cal_Zone_1 h6
    refine V_y (Y_fieldAddr Try.underlying24 rfl Try.sizeOf22 (by decide) rfl) rfl rfl rfl ?_
    obtain ⟨v12, h13, h14⟩ := El.list h11
    refine V_y (Y_load h13 Try.isAgg22 rfl) rfl rfl rfl ?_
    refine V_y (Y_lenSl h14 rfl Try.underlying22 rfl) rfl rfl rfl ?_
    refine V_y (Y_gtr rfl rfl) rfl rfl rfl ?_
    refine V_to (fun _ _ => rfl) ?_
    refine C_cond rfl (fun hc15 => ?_) (fun hc15 => ?_)
    · rw [if_pos hc15] at hm
      refine C_seq ?_
      refine C_region ?_
      refine V_y (Y_assign rfl) rfl rfl rfl ?_
      refine V_to (fun _ _ => rfl) ?_
      obtain rfl := Option.some.inj hm
      refine C_ret ?_
      try simp only [↓inBlock_ret, ↓then_ret]
      exact retQ rfl (Res.one Try.results61 rfl) ⟨rfl, hK.kp⟩
    · rw [if_neg (nt hc15)] at hm
      refine C_skip_to (fun _ _ => rfl) ?_
      refine C_seq ?_
      refine C_region ?_
      have h16 := El_cal_Zone_0 h6
      refine V_y (Y_fieldAddr Try.underlying24 rfl Try.sizeOf3 (by decide) rfl) rfl rfl rfl ?_
      refine V_y (Y_load (El.int h16) Try.isAgg3 rfl) rfl rfl rfl ?_
      refine V_y (Y_assign rfl) rfl rfl rfl ?_
      refine V_to (fun _ _ => rfl) ?_
      refine C_seq ?_
      refine C_seq ?_
      refine C_region ?_
      have h17 := El_cal_Zone_1 h6
      refine V_y (Y_fieldAddr Try.underlying24 rfl Try.sizeOf22 (by decide) rfl) rfl rfl rfl ?_
      obtain ⟨v18, h19, h20⟩ := El.list h17
      refine V_y (Y_load h19 Try.isAgg22 rfl) rfl rfl rfl ?_
      refine V_y (Y_lenSl h20 rfl Try.underlying22 rfl) rfl rfl rfl ?_
      refine V_y (Y_move rfl) rfl rfl rfl ?_
      refine V_to (fun _ _ => rfl) ?_
      have hn41 := Sl.le h20
      obtain ⟨o21, ho21, hm⟩ := Option.bind_eq_some_iff.1 hm
      refine C_cutG (ι := (Int × (Nat → Prop))) (fun ⟨s22, A28⟩ => []) (fun ⟨s22, A28⟩ => fun w' => o21 = .fin s22 ∧ Hp w.heap.size A28 w' ([]) ∧ Tr w.heap.size A w4 A28 w') ?_ ?_
      · refine C_block ?_
        refine C_range ho21 (fun k24 s30 a w' => ∃ i : (Nat → Prop), Has ⟨63, [], none⟩ a ([(1, .pointer (some ⟨b3, 0, none⟩)), (3, .func (.func 84) #[] #[]), (4, .int .i64 s30), (18, v18), (19, .int .i64 (z.changes.length : Int)), (20, .int .i64 (k24 : Int))]) ∧ Hp w.heap.size i w' ([]) ∧ Tr w.heap.size A w4 i w') (fun a ha => ⟨A, ha.sub ⟨rfl, rfl, rfl, rfl, rfl, rfl, trivial⟩, ⟨hH, Tr.refl hA⟩⟩) ?_
        rintro K k24 s30 a w31 ⟨A32, ha97, hH33, hr23⟩ hle37 K40 h39
        refine C_of ?_ ha97
        replace h6 := El.tr h6 hr23
        replace h20 := Sl.tr h20 hr23
        replace hK := Tr.trans hK hr23
        replace hB := Nat.le_trans hB hr23.ex.size
        replace hA := hr23.new
        replace hH : Hp w.heap.size A32 w31 ([]) := hH33
        refine C_seq (C_region (V_y (Y_lss rfl rfl) rfl rfl rfl (V_to (fun _ _ => rfl) ?_)))
        refine C_seq ?_
        refine C_cond rfl (fun hc42 => ?_) (fun hc42 => ?_)
        · have hlt38 := lt_of_dec hc42
          obtain ⟨x34, h35, h36⟩ := K40 hlt38
          refine C_skip_to (fun _ _ => rfl) ?_
          refine C_seq ?_
          refine C_block ?_
          refine C_seq ?_
          refine C_region ?_
          refine V_y (Y_move rfl) rfl rfl rfl ?_
          obtain ⟨x43, hx43, h35⟩ := Option.bind_eq_some_iff.1 h35
          refine V_indexAddr h20 hx43 Try.underlying22 Try.sizeOf116 rfl rfl rfl ?_
          intro b44 o45 h46
          obtain ⟨h47, _⟩ := El_cal_Change h46
          refine V_y (Y_loadA h47 Try.isAgg116 Try.sizeOf116 rfl) rfl rfl rfl ?_
          refine V_alloc Try.zeroValue116 rfl ?_
          intro b48 w49 h50
          refine V_y (Y_assign rfl) rfl rfl rfl ?_
          refine V_storeNew h50 Try.sizeOf116 rfl rfl rfl rfl (by exact (List.forall_mem_cons.2 ⟨rfl, (List.forall_mem_cons.2 ⟨rfl, (fun _ h => nomatch h)⟩)⟩)) ?_
          intro w51 h52
          have hk54 := h52.kp
          have h53 : El (α := cal_Change) A32 w51 b48 0 x43 := h52.el hA ⟨[.int .i64 x43.at_], _, rfl, rfl, rfl⟩
          have ht55 := Kp.tr hk54 hA hB
          replace hH := Hp.kp hH hk54
          replace h6 := El.tr h6 ht55
          replace h20 := Sl.tr h20 ht55
          replace h46 := El.tr h46 ht55
          replace hK := Tr.trans hK ht55
          replace hr23 := Tr.trans hr23 ht55
          replace hB := Nat.le_trans hB ht55.ex.size
          replace hA := ht55.new
          refine V_to (fun _ _ => rfl) ?_
          refine C_seq ?_
          refine C_block ?_
          refine C_seq ?_
          obtain ⟨s57, ho56, h35⟩ := Option.bind_eq_some_iff.1 h35
          refine C_cutG (ι := (Nat → Prop)) (fun (A62 : (Nat → Prop)) => [(1, .pointer (some ⟨b3, 0, none⟩)), (3, .func (.func 84) #[] #[]), (4, .int .i64 s30), (5, .int .i64 (k24 : Int)), (6, .pointer (some ⟨b48, 0, none⟩)), (18, v18), (19, .int .i64 (z.changes.length : Int)), (20, .int .i64 (k24 : Int)), (25, .bool s57)]) (fun (A62 : (Nat → Prop)) => fun w' => Hp w.heap.size A62 w' ([]) ∧ Tr w.heap.size A32 w51 A62 w') ?_ ?_
          · have hr58 : Tr w.heap.size A32 w51 A32 w51 := Tr.refl hA
            refine C_region ?_
            have h64 := El_cal_Change_0 h53
            refine V_y (Y_fieldAddr Try.underlying116 rfl Try.sizeOf3 (by decide) rfl) rfl rfl rfl ?_
            refine V_y (Y_load (El.int h64) Try.isAgg3 rfl) rfl rfl rfl ?_
            refine V_y (Y_lss rfl rfl) rfl rfl rfl ?_
            refine V_y (Y_move rfl) rfl rfl rfl ?_
            rcases Bool.eq_false_or_eq_true (decide (x43.at_ < 1)) with hc65 | hc65
            · rw [if_pos hc65] at ho56
              refine V_gn rfl rfl rfl hc65 rfl rfl rfl ?_
              refine V_gn rfl rfl rfl hc65 rfl rfl rfl ?_
              refine V_gn rfl rfl rfl hc65 rfl rfl rfl ?_
              refine V_y (Y_pick_te rfl hc65 rfl) rfl rfl rfl ?_
              refine V_y (Y_move rfl) rfl rfl rfl ?_
              rcases Bool.eq_false_or_eq_true (true) with hc66 | hc66
              · rw [if_pos hc66] at ho56
                refine V_gn rfl rfl rfl hc66 rfl rfl rfl ?_
                refine V_gn rfl rfl rfl hc66 rfl rfl rfl ?_
                refine V_gn rfl rfl rfl hc66 rfl rfl rfl ?_
                refine V_gn rfl rfl rfl hc66 rfl rfl rfl ?_
                refine V_y (Y_pick_te rfl hc66 rfl) rfl rfl rfl ?_
                refine V_y (Y_assign rfl) rfl rfl rfl ?_
                obtain rfl := Option.some.inj ho56
                refine V_end (fun a ha67 => ?_)
                exact ⟨A32, ha67.sub ⟨rfl, rfl, rfl, rfl, rfl, rfl, rfl, rfl, rfl, trivial⟩, ⟨hH, hr58⟩⟩
              · rw [if_neg (nt hc66)] at ho56
                refine V_ge rfl rfl rfl hc66 ?_
                refine V_y (Y_move rfl) rfl rfl rfl ?_
                refine V_ge rfl rfl rfl hc66 ?_
                have h68 := El_cal_Change_1 h53
                refine V_y (Y_fieldAddr Try.underlying116 rfl Try.sizeOf3 (by decide) rfl) rfl rfl rfl ?_
                refine V_ge rfl rfl rfl hc66 ?_
                refine V_y (Y_load (El.int h68) Try.isAgg3 rfl) rfl rfl rfl ?_
                refine V_ge rfl rfl rfl hc66 ?_
                refine V_call Try.call84 rfl rfl rfl rfl (portref2_ZoneFault_1_c w51 x43.offset) ?_
                rintro _ _ ⟨rfl, rfl⟩
                refine V_y (Y_pick_fe rfl hc66 rfl) rfl rfl rfl ?_
                refine V_y (Y_assign rfl) rfl rfl rfl ?_
                obtain rfl := Option.some.inj ho56
                refine V_end (fun a ha69 => ?_)
                exact ⟨A32, ha69.sub ⟨rfl, rfl, rfl, rfl, rfl, rfl, rfl, rfl, rfl, trivial⟩, ⟨hH, hr58⟩⟩
            · rw [if_neg (nt hc65)] at ho56
              refine V_ge rfl rfl rfl hc65 ?_
              have h70 := El_cal_Change_0 h53
              refine V_y (Y_fieldAddr Try.underlying116 rfl Try.sizeOf3 (by decide) rfl) rfl rfl rfl ?_
              refine V_ge rfl rfl rfl hc65 ?_
              refine V_y (Y_load (El.int h70) Try.isAgg3 rfl) rfl rfl rfl ?_
              refine V_ge rfl rfl rfl hc65 ?_
              refine V_y (Y_gtr rfl rfl) rfl rfl rfl ?_
              refine V_y (Y_pick_fe rfl hc65 rfl) rfl rfl rfl ?_
              refine V_y (Y_move rfl) rfl rfl rfl ?_
              rcases Bool.eq_false_or_eq_true (decide ((3000000 : Int) < x43.at_)) with hc71 | hc71
              · rw [if_pos hc71] at ho56
                refine V_gn rfl rfl rfl hc71 rfl rfl rfl ?_
                refine V_gn rfl rfl rfl hc71 rfl rfl rfl ?_
                refine V_gn rfl rfl rfl hc71 rfl rfl rfl ?_
                refine V_gn rfl rfl rfl hc71 rfl rfl rfl ?_
                refine V_y (Y_pick_te rfl hc71 rfl) rfl rfl rfl ?_
                refine V_y (Y_assign rfl) rfl rfl rfl ?_
                obtain rfl := Option.some.inj ho56
                refine V_end (fun a ha72 => ?_)
                exact ⟨A32, ha72.sub ⟨rfl, rfl, rfl, rfl, rfl, rfl, rfl, rfl, rfl, trivial⟩, ⟨hH, hr58⟩⟩
              · rw [if_neg (nt hc71)] at ho56
                refine V_ge rfl rfl rfl hc71 ?_
                refine V_y (Y_move rfl) rfl rfl rfl ?_
                refine V_ge rfl rfl rfl hc71 ?_
                have h73 := El_cal_Change_1 h53
                refine V_y (Y_fieldAddr Try.underlying116 rfl Try.sizeOf3 (by decide) rfl) rfl rfl rfl ?_
                refine V_ge rfl rfl rfl hc71 ?_
                refine V_y (Y_load (El.int h73) Try.isAgg3 rfl) rfl rfl rfl ?_
                refine V_ge rfl rfl rfl hc71 ?_
                refine V_call Try.call84 rfl rfl rfl rfl (portref2_ZoneFault_1_c w51 x43.offset) ?_
                rintro _ _ ⟨rfl, rfl⟩
                refine V_y (Y_pick_fe rfl hc71 rfl) rfl rfl rfl ?_
                refine V_y (Y_assign rfl) rfl rfl rfl ?_
                obtain rfl := Option.some.inj ho56
                refine V_end (fun a ha74 => ?_)
                exact ⟨A32, ha74.sub ⟨rfl, rfl, rfl, rfl, rfl, rfl, rfl, rfl, rfl, trivial⟩, ⟨hH, hr58⟩⟩
          rintro A62 w59 ⟨hH63, hk60⟩ a ha61
          replace h6 := El.tr h6 hk60
          replace h20 := Sl.tr h20 hk60
          replace h53 := El.tr h53 hk60
          replace hK := Tr.trans hK hk60
          replace hr23 := Tr.trans hr23 hk60
          replace hB := Nat.le_trans hB hk60.ex.size
          replace hA := hk60.new
          replace hH : Hp w.heap.size A62 w59 ([]) := hH63
          refine C_at (n := ⟨63, [], none⟩) (fun _ _ => rfl) ?_ ha61
          refine C_cond rfl (fun hc75 => ?_) (fun hc75 => ?_)
          · rw [if_pos hc75] at h35
            refine C_seq ?_
            refine C_region ?_
            refine V_y (Y_assign rfl) rfl rfl rfl ?_
            refine V_to (fun _ _ => rfl) ?_
            obtain rfl := Option.some.inj h35
            obtain rfl := (h36 : Lp.rt _ = _)
            rw [Lp.andThen_rt] at hm
            obtain rfl := Option.some.inj hm
            refine C_ret ?_
            try simp only [↓inBlock_ret, ↓then_ret]
            exact retQ rfl (Res.one Try.results61 rfl) ⟨rfl, hK.kp⟩
          · rw [if_neg (nt hc75)] at h35
            refine C_seq ?_
            refine C_region_q Try_mixed (by kernel_rfl) ?_
            refine VQ_y (fun w' hw' => Y_move rfl) rfl rfl rfl ?_
            refine VQ_y (fun w' hw' => Y_gtr rfl rfl) rfl rfl rfl ?_
            refine VQ_y (fun w' hw' => Y_move rfl) rfl rfl rfl ?_
            obtain ⟨s77, hs77, h35⟩ := Option.bind_eq_some_iff.1 h35
            refine VQ_cut 11 (fun _ : Unit => [(1, .pointer (some ⟨b3, 0, none⟩)), (3, .func (.func 84) #[] #[]), (4, .int .i64 s30), (6, .pointer (some ⟨b48, 0, none⟩)), (18, v18), (19, .int .i64 (z.changes.length : Int)), (20, .int .i64 (k24 : Int)), (54, .bool s77)]) (fun _ => True) ?_ ?_
            · simp only [List.take, List.drop]
              rcases Bool.eq_false_or_eq_true (decide ((0 : Int) < (k24 : Int))) with hc76 | hc76
              · rw [if_pos hc76] at hs77
                refine VQ_ge rfl rfl rfl hc76 ?_
                have h78 := El_cal_Change_0 h53
                refine VQ_y (fun w' hw' => Y_fieldAddr Try.underlying116 rfl Try.sizeOf3 (by decide) rfl) rfl rfl rfl ?_
                refine VQ_ge rfl rfl rfl hc76 ?_
                refine VQ_y (fun w' hw' => Y_load (El.int (El.kp h78 hw')) Try.isAgg3 rfl) rfl rfl rfl ?_
                refine VQ_ge rfl rfl rfl hc76 ?_
                have h79 := El_cal_Zone_1 h6
                refine VQ_y (fun w' hw' => Y_fieldAddr Try.underlying24 rfl Try.sizeOf22 (by decide) rfl) rfl rfl rfl ?_
                refine VQ_ge rfl rfl rfl hc76 ?_
                obtain ⟨v80, h81, h82⟩ := El.list h79
                refine VQ_y (fun w' hw' => Y_load ((World.cell?_of_block (hw'.block _ (World.block_lt_of_cell? _ _ h81))).trans h81) Try.isAgg22 rfl) rfl rfl rfl ?_
                refine VQ_ge rfl rfl rfl hc76 ?_
                refine VQ_y (fun w' hw' => Y_move rfl) rfl rfl rfl ?_
                refine VQ_ge rfl rfl rfl hc76 ?_
                refine VQ_y (fun w' hw' => Y_subI rfl rfl) rfl rfl rfl ?_
                refine VQ_ge rfl rfl rfl hc76 ?_
                obtain ⟨x83, hx83, hs77⟩ := Option.bind_eq_some_iff.1 hs77
                refine VQ_indexAddr h82 hx83 Try.underlying22 Try.sizeOf116 rfl rfl rfl ?_
                intro b84 o85 h86
                refine VQ_ge rfl rfl rfl hc76 ?_
                have h87 := El_cal_Change_0 h86
                refine VQ_y (fun w' hw' => Y_fieldAddr Try.underlying116 rfl Try.sizeOf3 (by decide) rfl) rfl rfl rfl ?_
                refine VQ_ge rfl rfl rfl hc76 ?_
                refine VQ_y (fun w' hw' => Y_load (El.int (El.kp h87 hw')) Try.isAgg3 rfl) rfl rfl rfl ?_
                refine VQ_ge rfl rfl rfl hc76 ?_
                refine VQ_y (fun w' hw' => Y_leq rfl rfl) rfl rfl rfl ?_
                refine VQ_y (fun _ _ => Y_pick_te rfl hc76 rfl) rfl rfl rfl ?_
                obtain rfl := Option.some.inj hs77
                exact VQ_end fun a ha => ⟨(), ha.sub ⟨rfl, rfl, rfl, rfl, rfl, rfl, rfl, rfl, trivial⟩, trivial⟩
              · rw [if_neg (nt hc76)] at hs77
                refine VQ_gn rfl rfl rfl hc76 rfl rfl rfl ?_
                refine VQ_gn rfl rfl rfl hc76 rfl rfl rfl ?_
                refine VQ_gn rfl rfl rfl hc76 rfl rfl rfl ?_
                refine VQ_gn rfl rfl rfl hc76 rfl rfl rfl ?_
                refine VQ_gn rfl rfl rfl hc76 rfl rfl rfl ?_
                refine VQ_gn rfl rfl rfl hc76 rfl rfl rfl ?_
                refine VQ_gn rfl rfl rfl hc76 rfl rfl rfl ?_
                refine VQ_gn rfl rfl rfl hc76 rfl rfl rfl ?_
                refine VQ_gn rfl rfl rfl hc76 rfl rfl rfl ?_
                refine VQ_gn rfl rfl rfl hc76 rfl rfl rfl ?_
                refine VQ_y (fun _ _ => Y_pick_fe rfl hc76 rfl) rfl rfl rfl ?_
                obtain rfl := Option.some.inj hs77
                exact VQ_end fun a ha => ⟨(), ha.sub ⟨rfl, rfl, rfl, rfl, rfl, rfl, rfl, rfl, trivial⟩, trivial⟩
            simp only [List.take, List.drop]
            rintro _ _
            refine VQ_y (fun w' hw' => Y_assign rfl) rfl rfl rfl ?_
            refine VQ_to (fun _ _ => rfl) (fun w88 hk89 => ?_)
            have ht90 := Kp.tr hk89 hA hB
            replace hH := Hp.kp hH hk89
            replace h6 := El.tr h6 ht90
            replace h20 := Sl.tr h20 ht90
            replace h53 := El.tr h53 ht90
            replace hK := Tr.trans hK ht90
            replace hr23 := Tr.trans hr23 ht90
            replace hB := Nat.le_trans hB ht90.ex.size
            replace hA := ht90.new
            refine C_cond rfl (fun hc91 => ?_) (fun hc91 => ?_)
            · rw [if_pos hc91] at h35
              refine C_seq ?_
              refine C_region ?_
              refine V_y (Y_assign rfl) rfl rfl rfl ?_
              refine V_to (fun _ _ => rfl) ?_
              obtain rfl := Option.some.inj h35
              obtain rfl := (h36 : Lp.rt _ = _)
              rw [Lp.andThen_rt] at hm
              obtain rfl := Option.some.inj hm
              refine C_ret ?_
              try simp only [↓inBlock_ret, ↓then_ret]
              exact retQ rfl (Res.one Try.results61 rfl) ⟨rfl, hK.kp⟩
            · rw [if_neg (nt hc91)] at h35
              refine C_seq ?_
              refine C_region ?_
              have h92 := El_cal_Change_1 h53
              refine V_y (Y_fieldAddr Try.underlying116 rfl Try.sizeOf3 (by decide) rfl) rfl rfl rfl ?_
              refine V_y (Y_load (El.int h92) Try.isAgg3 rfl) rfl rfl rfl ?_
              refine V_y (Y_move rfl) rfl rfl rfl ?_
              refine V_y (Y_eql rfl rfl) rfl rfl rfl ?_
              refine V_y (Y_assign rfl) rfl rfl rfl ?_
              refine V_to (fun _ _ => rfl) ?_
              refine C_cond rfl (fun hc93 => ?_) (fun hc93 => ?_)
              · rw [if_pos hc93] at h35
                refine C_seq ?_
                refine C_region ?_
                refine V_y (Y_assign rfl) rfl rfl rfl ?_
                refine V_to (fun _ _ => rfl) ?_
                obtain rfl := Option.some.inj h35
                obtain rfl := (h36 : Lp.rt _ = _)
                rw [Lp.andThen_rt] at hm
                obtain rfl := Option.some.inj hm
                refine C_ret ?_
                try simp only [↓inBlock_ret, ↓then_ret]
                exact retQ rfl (Res.one Try.results61 rfl) ⟨rfl, hK.kp⟩
              · rw [if_neg (nt hc93)] at h35
                refine C_skip_to (fun _ _ => rfl) ?_
                refine C_region ?_
                have h94 := El_cal_Change_1 h53
                refine V_y (Y_fieldAddr Try.underlying116 rfl Try.sizeOf3 (by decide) rfl) rfl rfl rfl ?_
                refine V_y (Y_load (El.int h94) Try.isAgg3 rfl) rfl rfl rfl ?_
                refine V_y (Y_assign rfl) rfl rfl rfl ?_
                refine V_to (fun _ _ => rfl) ?_
                refine C_region ?_
                refine V_y (Y_addI rfl rfl) rfl rfl rfl ?_
                refine V_y (Y_move rfl) rfl rfl rfl ?_
                obtain rfl := Option.some.inj h35
                refine V_end (fun a ha95 => ?_)
                exact ⟨x43.offset, hlt38, h36, ⟨A62, ha95.sub ⟨rfl, rfl, rfl, rfl, rfl, (congrArg (fun z => some (Value.int .i64 z)) (w64_succ hlt38 hn41)), trivial⟩, ⟨hH, hr23⟩⟩⟩
        · refine C_exit (fun a ha96 => ?_)
          exact ⟨(s30, A32), ha96.sub trivial, ⟨(h39 (eq_of_dec hle37 hc42)).symm, hH, hr23⟩⟩
      rintro ⟨s22, A28⟩ w25 ⟨rfl, hH29, hk26⟩ a ha27
      rw [Lp.andThen_fin] at hm
      replace hK := Tr.trans hK hk26
      replace hB := Nat.le_trans hB hk26.ex.size
      replace hA := hk26.new
      replace hH : Hp w.heap.size A28 w25 ([]) := hH29
      refine C_at (n := ⟨63, [], none⟩) (fun _ _ => rfl) ?_ ha27
      refine C_seq ?_
      refine C_region ?_
      refine V_y (Y_assign rfl) rfl rfl rfl ?_
      refine V_to (fun _ _ => rfl) ?_
      obtain rfl := Option.some.inj hm
      refine C_ret ?_
      try simp only [↓inBlock_ret, ↓then_ret]
      exact retQ rfl (Res.one Try.results61 rfl) ⟨rfl, hK.kp⟩

end Go.Proofs.Ytpfoimbklbkcpaa.W
