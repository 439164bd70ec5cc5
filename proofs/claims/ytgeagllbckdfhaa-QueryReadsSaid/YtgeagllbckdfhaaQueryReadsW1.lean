/-
  Written by program (gen.py) from the IR of the dump: each function computes its model.
-/
import Derived.Test.YtgeagllbckdfhaaQueryReadsW0
namespace Go.Proofs.Ytgeagllbckdfhaa.W
open Go Go.RowKit Go.Pu Go.Gw Go.Proofs Go.Proofs.Ytgeagllbckdfhaa.M
set_option linter.unusedVariables false
set_option linter.unusedSimpArgs false

set_option maxRecDepth 4000 in
set_option maxHeartbeats 4000000 in
theorem portref2_ReadQueryOf_c (w : World) {A : Nat → Prop} (hA : ∀ b, w.heap.size ≤ b → A b) (s : ByteArray) {r : (know_Query × Int × Int)} (hm : portref2_ReadQueryOf s = some r) : Ret Try.prog 6 #[.string s] w fun v w' => ∃ s0, v = .tuple #[.agg #[s0], .int .i64 r.2.1, .int .i64 r.2.2] ∧ Sl A w' s0 r.1.parts ∧ Kp w w' := by
  unfold portref2_ReadQueryOf at hm
  refine enter Try.func6 rfl Try.ntmps6 rfl ?_
  have hA0 := hA
  have hB := Nat.le_refl w.heap.size
  have hK : Tr w.heap.size A w A w := Tr.refl hA
  have hH : Hp w.heap.size A w [] := Hp.nil
  refine C_seq ?_
  refine C_region ?_
  refine V_allocH (B := w.heap.size) hH Try.zeroValue24 hB hA rfl ?_
  intro b1 w2 A3 hH4 ht5
  replace hK := Tr.trans hK ht5
  replace hB := Nat.le_trans hB ht5.ex.size
  replace hA := ht5.new
  replace hH : Hp w.heap.size A3 w2 (obC b1 [.slice none 0 0] 24 :: []) := hH4
  refine V_y (Y_assign rfl) rfl rfl rfl ?_
  refine V_y (Y_assign rfl) rfl rfl rfl ?_
  refine V_to (fun _ _ => rfl) ?_
  refine C_seq ?_
  refine C_seq ?_
  refine C_region ?_
  refine V_y (Y_move rfl) rfl rfl rfl ?_
  refine V_y (Y_lenStr rfl Try.underlying9 rfl) rfl rfl rfl ?_
  refine V_y (Y_gtr rfl rfl) rfl rfl rfl ?_
  refine V_to (fun _ _ => rfl) ?_
  refine C_cond rfl (fun hc6 => ?_) (fun hc6 => ?_)
  · rw [if_pos hc6] at hm
    refine C_seq ?_
    refine C_region ?_
    refine V_y (Y_build Try.underlying24 Try.zeroValue24 (Try_places24 _ Try.underlying24) rfl (by with_unfolding_all rfl)) rfl rfl rfl ?_
    refine V_storeC (off := 0) (ds := [.slice none 0 0]) hH (i := 0) rfl Try.sizeOf24 rfl (Nat.le_of_ble_eq_true rfl) (by exact (List.forall_mem_cons.2 ⟨rfl, (fun _ h => nomatch h)⟩)) rfl hB hA rfl rfl ?_
    intro w7 hH8 ht9
    replace hK := Tr.trans hK ht9
    replace hB := Nat.le_trans hB ht9.ex.size
    replace hA := ht9.new
    replace hH : Hp w.heap.size A3 w7 (obC b1 [.slice none 0 0] 24 :: []) := hH8
    refine V_y (Y_assign rfl) rfl rfl rfl ?_
    refine V_y (Y_assign rfl) rfl rfl rfl ?_
    refine V_to (fun _ _ => rfl) ?_
    obtain rfl := Option.some.inj hm
    refine C_ret ?_
    try simp only [↓inBlock_ret, ↓then_ret]
    exact retQ rfl (Res.l3 Try.results6 (RL.cell rfl (loadVar_agg (Hp.part (off := 0) (n := 1) (ds := [.slice none 0 0]) hH (i := 0) rfl rfl) Try.isAgg24 Try.sizeOf24)) (RL.tmp rfl) (RL.tmp rfl)) ⟨.slice none 0 0, rfl, Sl.nil, hK.kp⟩
  · rw [if_neg (nt hc6)] at hm
    refine C_skip_to (fun _ _ => rfl) ?_
    refine C_seq ?_
    refine C_region ?_
    refine V_allocH (B := w.heap.size) hH Try.zeroValue24 hB hA rfl ?_
    intro b10 w11 A12 hH13 ht14
    replace hK := Tr.trans hK ht14
    replace hB := Nat.le_trans hB ht14.ex.size
    replace hA := ht14.new
    replace hH : Hp w.heap.size A12 w11 (obC b10 [.slice none 0 0] 24 :: obC b1 [.slice none 0 0] 24 :: []) := hH13
    refine V_to (fun _ _ => rfl) ?_
    refine C_seq ?_
    refine C_region ?_
    refine V_y (Y_assign rfl) rfl rfl rfl ?_
    refine V_to (fun _ _ => rfl) ?_
    refine C_seq ?_
    refine C_seq ?_
    refine C_region ?_
    refine V_y (Y_assign rfl) rfl rfl rfl ?_
    refine V_to (fun _ _ => rfl) ?_
    replace hH : Hp w.heap.size A12 w11 (obS (α := know_Part) 38 (.slice none 0 0) ([] : (List know_Part)) :: obC b10 [.slice none 0 0] 24 :: obC b1 [.slice none 0 0] 24 :: []) := Hp.addNil (α := know_Part) (e := 38) hH
    obtain ⟨o15, ho15, hm⟩ := Option.bind_eq_some_iff.1 hm
    refine C_cutG (ι := ((Int × know_Query × know_Query) × Value × Value × (Nat → Prop))) (fun ⟨s16, v22, v24, A26⟩ => [(2, .pointer (some ⟨b1, 0, none⟩)), (5, .pointer (some ⟨b10, 0, none⟩))]) (fun ⟨s16, v22, v24, A26⟩ => fun w' => o15 = .fin s16 ∧ Sl A26 w' v24 s16.2.2.parts ∧ Hp w.heap.size A26 w' (obS (α := know_Part) 38 v22 s16.2.1.parts :: obC b10 [v22] 24 :: obC b1 [v24] 24 :: []) ∧ Tr w.heap.size A12 w11 A26 w') ?_ ?_
    · refine C_block ?_
      refine C_while ho15 (fun s28 a w' => ∃ i : (Value × Value × (Nat → Prop)), Has ⟨174, [], none⟩ a ([(0, .string s), (2, .pointer (some ⟨b1, 0, none⟩)), (5, .pointer (some ⟨b10, 0, none⟩)), (6, .func (.func 13) #[] #[]), (7, .int .i64 s28.1)]) ∧ Sl i.2.2 w' i.2.1 s28.2.2.parts ∧ Hp w.heap.size i.2.2 w' (obS (α := know_Part) 38 i.1 s28.2.1.parts :: obC b10 [i.1] 24 :: obC b1 [i.2.1] 24 :: []) ∧ Tr w.heap.size A12 w11 i.2.2 w') (fun a ha => ⟨(.slice none 0 0, .slice none 0 0, A12), ha.sub ⟨rfl, rfl, rfl, rfl, rfl, trivial⟩, ⟨Sl.nil, hH, Tr.refl hA⟩⟩) ?_
      rintro K s28 a w29 ⟨⟨v30, v32, A34⟩, ha316, h33, hH35, hr17⟩ K42
      refine C_of ?_ ha316
      replace hK := Tr.trans hK hr17
      replace hB := Nat.le_trans hB hr17.ex.size
      replace hA := hr17.new
      replace hH : Hp w.heap.size A34 w29 (obS (α := know_Part) 38 v30 s28.2.1.parts :: obC b10 [v30] 24 :: obC b1 [v32] 24 :: []) := hH35
      obtain ⟨x36, h37, h38⟩ := K42
      refine C_seq ?_
      refine C_seq ?_
      refine C_region ?_
      refine V_y (Y_move rfl) rfl rfl rfl ?_
      refine V_y (Y_move rfl) rfl rfl rfl ?_
      refine V_y (Y_lenStr rfl Try.underlying9 rfl) rfl rfl rfl ?_
      refine V_y (Y_lss rfl rfl) rfl rfl rfl ?_
      refine V_to (fun _ _ => rfl) ?_
      refine C_cond rfl (fun hc43 => ?_) (fun hc43 => ?_)
      · rw [if_pos hc43] at h37
        refine C_skip_to (fun _ _ => rfl) ?_
        obtain ⟨o44, ho44, h37⟩ := Option.bind_eq_some_iff.1 h37
        refine C_cutG (ι := ((Int × know_Query × know_Query) × Value × Value × (Nat → Prop))) (fun ⟨s45, v47, v49, A54⟩ => [(0, .string s), (2, .pointer (some ⟨b1, 0, none⟩)), (5, .pointer (some ⟨b10, 0, none⟩)), (6, .func (.func 13) #[] #[]), (7, .int .i64 s45.1)]) (fun ⟨s45, v47, v49, A54⟩ => fun w' => o44 = .fin s45 ∧ Sl A54 w' v49 s45.2.2.parts ∧ Hp w.heap.size A54 w' (obS (α := know_Part) 38 v47 s45.2.1.parts :: obC b10 [v47] 24 :: obC b1 [v49] 24 :: []) ∧ Tr w.heap.size A34 w29 A54 w') ?_ ?_
        · have hr46 : Tr w.heap.size A34 w29 A34 w29 := Tr.refl hA
          refine C_block ?_
          refine C_seq ?_
          refine C_seq ?_
          refine C_region ?_
          refine V_y (Y_move rfl) rfl rfl rfl ?_
          refine V_y (Y_move rfl) rfl rfl rfl ?_
          obtain ⟨x56, hx56, ho44⟩ := Option.bind_eq_some_iff.1 ho44
          refine V_y (Y_indexS hx56 Try.underlying9 rfl rfl) rfl rfl rfl ?_
          refine V_y (Y_eql rfl rfl) rfl rfl rfl ?_
          refine V_to (fun _ _ => rfl) ?_
          refine C_cond rfl (fun hc57 => ?_) (fun hc57 => ?_)
          · rw [if_pos hc57] at ho44
            refine C_seq ?_
            refine C_region ?_
            refine V_y (Y_move rfl) rfl rfl rfl ?_
            refine V_y (Y_addI rfl rfl) rfl rfl rfl ?_
            refine V_y (Y_assign rfl) rfl rfl rfl ?_
            refine V_to (fun _ _ => rfl) ?_
            obtain rfl := Option.some.inj ho44
            refine C_exit (fun a ha58 => ?_)
            exact ⟨((w64 (s28.1 + 1), s28.2.1, s28.2.2), v30, v32, A34), ha58.sub ⟨rfl, rfl, rfl, rfl, rfl, trivial⟩, ⟨rfl, h33, hH, hr46⟩⟩
          · rw [if_neg (nt hc57)] at ho44
            refine C_skip_to (fun _ _ => rfl) ?_
            refine C_seq ?_
            refine C_region ?_
            refine V_y (Y_build Try.underlying38 Try.zeroValue38 (Try_places38 _ Try.underlying38) rfl (by with_unfolding_all rfl)) rfl rfl rfl ?_
            refine V_allocH (B := w.heap.size) hH Try.zeroValue38 hB hA rfl ?_
            intro b59 w60 A61 hH62 ht63
            replace h33 := Sl.tr h33 ht63
            replace hK := Tr.trans hK ht63
            replace hr17 := Tr.trans hr17 ht63
            replace hr46 := Tr.trans hr46 ht63
            replace hB := Nat.le_trans hB ht63.ex.size
            replace hA := ht63.new
            replace hH : Hp w.heap.size A61 w60 (obC b59 [.int .i64 0, .bool false, .slice none 0 0] 38 :: obS (α := know_Part) 38 v30 s28.2.1.parts :: obC b10 [v30] 24 :: obC b1 [v32] 24 :: []) := hH62
            refine V_storeC (off := 0) (ds := [.int .i64 0, .bool false, .slice none 0 0]) hH (i := 0) rfl Try.sizeOf38 rfl (Nat.le_of_ble_eq_true rfl) (by exact (List.forall_mem_cons.2 ⟨rfl, (List.forall_mem_cons.2 ⟨rfl, (List.forall_mem_cons.2 ⟨rfl, (fun _ h => nomatch h)⟩)⟩)⟩)) rfl hB hA rfl rfl ?_
            intro w65 hH66 ht67
            replace h33 := Sl.tr h33 ht67
            replace hK := Tr.trans hK ht67
            replace hr17 := Tr.trans hr17 ht67
            replace hr46 := Tr.trans hr46 ht67
            replace hB := Nat.le_trans hB ht67.ex.size
            replace hA := ht67.new
            replace hH : Hp w.heap.size A61 w65 (obC b59 [.int .i64 0, .bool false, .slice none 0 0] 38 :: obS (α := know_Part) 38 v30 s28.2.1.parts :: obC b10 [v30] 24 :: obC b1 [v32] 24 :: []) := hH66
            refine V_to (fun _ _ => rfl) ?_
            refine C_seq ?_
            refine C_seq ?_
            refine C_region ?_
            refine V_y (Y_move rfl) rfl rfl rfl ?_
            refine V_y (Y_move rfl) rfl rfl rfl ?_
            refine V_y (Y_indexS hx56 Try.underlying9 rfl rfl) rfl rfl rfl ?_
            refine V_y (Y_eql rfl rfl) rfl rfl rfl ?_
            refine V_to (fun _ _ => rfl) ?_
            obtain ⟨s69, ho68, ho44⟩ := Option.bind_eq_some_iff.1 ho44
            refine C_cutG (ι := (Value × (Nat → Prop))) (fun ⟨v71, A76⟩ => [(0, .string s), (2, .pointer (some ⟨b1, 0, none⟩)), (5, .pointer (some ⟨b10, 0, none⟩)), (6, .func (.func 13) #[] #[]), (7, .int .i64 s69.1), (8, .pointer (some ⟨b59, 0, none⟩))]) (fun ⟨v71, A76⟩ => fun w' => Sl A76 w' v71 s69.2.words ∧ Hp w.heap.size A76 w' (obC b59 [.int .i64 s69.2.kind, .bool s69.2.not, v71] 38 :: obS (α := know_Part) 38 v30 s28.2.1.parts :: obC b10 [v30] 24 :: obC b1 [v32] 24 :: []) ∧ Tr w.heap.size A61 w65 A76 w') ?_ ?_
            · have hr70 : Tr w.heap.size A61 w65 A61 w65 := Tr.refl hA
              refine C_cond rfl (fun hc78 => ?_) (fun hc78 => ?_)
              · rw [if_pos hc78] at ho68
                refine C_seq ?_
                refine C_region ?_
                refine V_y (Y_fieldAddrC (off2 := 1) Try.underlying38 rfl Try.sizeOf4 (by decide) rfl rfl) rfl rfl rfl ?_
                refine V_storeC (off := 1) (ds := [.int .i64 0, .bool true, .slice none 0 0]) hH (i := 0) rfl Try.sizeOf4 rfl (Nat.le_of_ble_eq_true rfl) (by simp [Value.cells, Value.oneCell']) rfl hB hA rfl rfl ?_
                intro w79 hH80 ht81
                replace h33 := Sl.tr h33 ht81
                replace hK := Tr.trans hK ht81
                replace hr17 := Tr.trans hr17 ht81
                replace hr46 := Tr.trans hr46 ht81
                replace hr70 := Tr.trans hr70 ht81
                replace hB := Nat.le_trans hB ht81.ex.size
                replace hA := ht81.new
                replace hH : Hp w.heap.size A61 w79 (obC b59 [.int .i64 0, .bool true, .slice none 0 0] 38 :: obS (α := know_Part) 38 v30 s28.2.1.parts :: obC b10 [v30] 24 :: obC b1 [v32] 24 :: []) := hH80
                refine V_to (fun _ _ => rfl) ?_
                refine C_region ?_
                refine V_y (Y_move rfl) rfl rfl rfl ?_
                refine V_y (Y_addI rfl rfl) rfl rfl rfl ?_
                refine V_y (Y_assign rfl) rfl rfl rfl ?_
                obtain rfl := Option.some.inj ho68
                refine V_end (fun a ha82 => ?_)
                exact ⟨(.slice none 0 0, A61), ha82.sub ⟨rfl, rfl, rfl, rfl, rfl, rfl, trivial⟩, ⟨Sl.nil, hH, hr70⟩⟩
              · rw [if_neg (nt hc78)] at ho68
                obtain rfl := Option.some.inj ho68
                refine C_skip (fun a ha83 => ?_)
                exact ⟨(.slice none 0 0, A61), ha83.sub ⟨rfl, rfl, rfl, rfl, rfl, rfl, trivial⟩, ⟨Sl.nil, hH, hr70⟩⟩
            rintro ⟨v71, A76⟩ w73 ⟨h72, hH77, hk74⟩ a ha75
            replace h33 := Sl.tr h33 hk74
            replace hK := Tr.trans hK hk74
            replace hr17 := Tr.trans hr17 hk74
            replace hr46 := Tr.trans hr46 hk74
            replace hB := Nat.le_trans hB hk74.ex.size
            replace hA := hk74.new
            replace hH : Hp w.heap.size A76 w73 (obC b59 [.int .i64 s69.2.kind, .bool s69.2.not, v71] 38 :: obS (α := know_Part) 38 v30 s28.2.1.parts :: obC b10 [v30] 24 :: obC b1 [v32] 24 :: []) := hH77
            refine C_at (n := ⟨174, [], none⟩) (fun _ _ => rfl) ?_ ha75
            refine C_seq ?_
            obtain ⟨o84, ho84, ho44⟩ := Option.bind_eq_some_iff.1 ho44
            refine C_cutG (ι := ((Int × know_Part × know_Query) × Value × Value × (Nat → Prop))) (fun ⟨s85, v87, v89, A94⟩ => [(0, .string s), (2, .pointer (some ⟨b1, 0, none⟩)), (5, .pointer (some ⟨b10, 0, none⟩)), (6, .func (.func 13) #[] #[]), (7, .int .i64 s85.1), (8, .pointer (some ⟨b59, 0, none⟩))]) (fun ⟨s85, v87, v89, A94⟩ => fun w' => o84 = .fin s85 ∧ Sl A94 w' v87 s85.2.1.words ∧ Sl A94 w' v89 s85.2.2.parts ∧ Hp w.heap.size A94 w' (obC b59 [.int .i64 s85.2.1.kind, .bool s85.2.1.not, v87] 38 :: obS (α := know_Part) 38 v30 s28.2.1.parts :: obC b10 [v30] 24 :: obC b1 [v89] 24 :: []) ∧ Tr w.heap.size A76 w73 A94 w') ?_ ?_
            · have hr86 : Tr w.heap.size A76 w73 A76 w73 := Tr.refl hA
              refine C_block ?_
              refine C_seq ?_
              refine C_region ?_
              refine V_y (Y_move rfl) rfl rfl rfl ?_
              refine V_y (Y_move rfl) rfl rfl rfl ?_
              refine V_y (Y_lenStr rfl Try.underlying9 rfl) rfl rfl rfl ?_
              refine V_y (Y_lss rfl rfl) rfl rfl rfl ?_
              refine V_y (Y_move rfl) rfl rfl rfl ?_
              obtain ⟨s97, hs97, ho84⟩ := Option.bind_eq_some_iff.1 ho84
              refine V_cut 5 (fun _ : Unit => [(0, .string s), (2, .pointer (some ⟨b1, 0, none⟩)), (5, .pointer (some ⟨b10, 0, none⟩)), (6, .func (.func 13) #[] #[]), (7, .int .i64 s69.1), (8, .pointer (some ⟨b59, 0, none⟩)), (49, .bool s97)]) (fun _ w' => w73 = w') ?_ ?_
              · simp only [List.take, List.drop]
                rcases Bool.eq_false_or_eq_true (decide (s69.1 < (s.size : Int))) with hc96 | hc96
                · rw [if_pos hc96] at hs97
                  refine V_ge rfl rfl rfl hc96 ?_
                  refine V_y (Y_move rfl) rfl rfl rfl ?_
                  refine V_ge rfl rfl rfl hc96 ?_
                  refine V_y (Y_move rfl) rfl rfl rfl ?_
                  refine V_ge rfl rfl rfl hc96 ?_
                  obtain ⟨x98, hx98, hs97⟩ := Option.bind_eq_some_iff.1 hs97
                  refine V_y (Y_indexS hx98 Try.underlying9 rfl rfl) rfl rfl rfl ?_
                  refine V_ge rfl rfl rfl hc96 ?_
                  refine V_y (Y_eql rfl rfl) rfl rfl rfl ?_
                  refine V_y (Y_pick_te rfl hc96 rfl) rfl rfl rfl ?_
                  obtain rfl := Option.some.inj hs97
                  exact V_end fun a ha => ⟨(), ha.sub ⟨rfl, rfl, rfl, rfl, rfl, rfl, rfl, trivial⟩, rfl⟩
                · rw [if_neg (nt hc96)] at hs97
                  refine V_gn rfl rfl rfl hc96 rfl rfl rfl ?_
                  refine V_gn rfl rfl rfl hc96 rfl rfl rfl ?_
                  refine V_gn rfl rfl rfl hc96 rfl rfl rfl ?_
                  refine V_gn rfl rfl rfl hc96 rfl rfl rfl ?_
                  refine V_y (Y_pick_fe rfl hc96 rfl) rfl rfl rfl ?_
                  obtain rfl := Option.some.inj hs97
                  exact V_end fun a ha => ⟨(), ha.sub ⟨rfl, rfl, rfl, rfl, rfl, rfl, rfl, trivial⟩, rfl⟩
              simp only [List.take, List.drop]
              rintro _ _ rfl
              refine V_y (Y_assign rfl) rfl rfl rfl ?_
              refine V_to (fun _ _ => rfl) ?_
              obtain ⟨o99, ho99, ho84⟩ := Option.bind_eq_some_iff.1 ho84
              refine C_cutG (ι := ((Int × know_Part × know_Query) × Value × Value × (Nat → Prop))) (fun ⟨s100, v102, v104, A109⟩ => [(0, .string s), (2, .pointer (some ⟨b1, 0, none⟩)), (5, .pointer (some ⟨b10, 0, none⟩)), (6, .func (.func 13) #[] #[]), (7, .int .i64 s100.1), (8, .pointer (some ⟨b59, 0, none⟩))]) (fun ⟨s100, v102, v104, A109⟩ => fun w' => o99 = .fin s100 ∧ Sl A109 w' v102 s100.2.1.words ∧ Sl A109 w' v104 s100.2.2.parts ∧ Hp w.heap.size A109 w' (obC b59 [.int .i64 s100.2.1.kind, .bool s100.2.1.not, v102] 38 :: obS (α := know_Part) 38 v30 s28.2.1.parts :: obC b10 [v30] 24 :: obC b1 [v104] 24 :: []) ∧ Tr w.heap.size A76 w73 A109 w') ?_ ?_
              · have hr101 : Tr w.heap.size A76 w73 A76 w73 := Tr.refl hA
                refine C_cond rfl (fun hc111 => ?_) (fun hc111 => ?_)
                · rw [if_pos hc111] at ho99
                  refine C_seq ?_
                  refine C_region ?_
                  refine V_y (Y_move rfl) rfl rfl rfl ?_
                  refine V_y (Y_move rfl) rfl rfl rfl ?_
                  refine V_y (Y_addI rfl rfl) rfl rfl rfl ?_
                  obtain ⟨x112, hx112, ho99⟩ := Option.bind_eq_some_iff.1 ho99
                  refine V_y (Y_sliceSL hx112 Try.underlying9 rfl rfl) rfl rfl rfl ?_
                  refine V_call Try.call14 rfl rfl rfl rfl (strings_IndexByte_c w73 x112 34) ?_
                  rintro _ _ ⟨rfl, rfl⟩
                  refine V_y (Y_assign rfl) rfl rfl rfl ?_
                  refine V_to (fun _ _ => rfl) ?_
                  refine C_seq ?_
                  refine C_seq ?_
                  obtain ⟨s114, ho113, ho99⟩ := Option.bind_eq_some_iff.1 ho99
                  refine C_cutG (ι := (Nat → Prop)) (fun (A119 : (Nat → Prop)) => [(0, .string s), (2, .pointer (some ⟨b1, 0, none⟩)), (5, .pointer (some ⟨b10, 0, none⟩)), (6, .func (.func 13) #[] #[]), (7, .int .i64 s69.1), (8, .pointer (some ⟨b59, 0, none⟩)), (9, .int .i64 (strings_IndexByte x112 34)), (69, .bool s114)]) (fun (A119 : (Nat → Prop)) => fun w' => Hp w.heap.size A119 w' (obC b59 [.int .i64 s69.2.kind, .bool s69.2.not, v71] 38 :: obS (α := know_Part) 38 v30 s28.2.1.parts :: obC b10 [v30] 24 :: obC b1 [v32] 24 :: []) ∧ Tr w.heap.size A76 w73 A119 w') ?_ ?_
                  · have hr115 : Tr w.heap.size A76 w73 A76 w73 := Tr.refl hA
                    refine C_region ?_
                    refine V_y (Y_move rfl) rfl rfl rfl ?_
                    refine V_y (Y_lss rfl rfl) rfl rfl rfl ?_
                    refine V_y (Y_move rfl) rfl rfl rfl ?_
                    rcases Bool.eq_false_or_eq_true (decide ((strings_IndexByte x112 34) < 0)) with hc121 | hc121
                    · rw [if_pos hc121] at ho113
                      refine V_gn rfl rfl rfl hc121 rfl rfl rfl ?_
                      refine V_gn rfl rfl rfl hc121 rfl rfl rfl ?_
                      refine V_gn rfl rfl rfl hc121 rfl rfl rfl ?_
                      refine V_gn rfl rfl rfl hc121 rfl rfl rfl ?_
                      refine V_gn rfl rfl rfl hc121 rfl rfl rfl ?_
                      refine V_gn rfl rfl rfl hc121 rfl rfl rfl ?_
                      refine V_gn rfl rfl rfl hc121 rfl rfl rfl ?_
                      refine V_gn rfl rfl rfl hc121 rfl rfl rfl ?_
                      refine V_gn rfl rfl rfl hc121 rfl rfl rfl ?_
                      refine V_gn rfl rfl rfl hc121 rfl rfl rfl ?_
                      refine V_gn rfl rfl rfl hc121 rfl rfl rfl ?_
                      refine V_y (Y_pick_te rfl hc121 rfl) rfl rfl rfl ?_
                      obtain rfl := Option.some.inj ho113
                      refine V_end (fun a ha122 => ?_)
                      exact ⟨A76, ha122.sub ⟨rfl, rfl, rfl, rfl, rfl, rfl, rfl, rfl, trivial⟩, ⟨hH, hr115⟩⟩
                    · rw [if_neg (nt hc121)] at ho113
                      refine V_ge rfl rfl rfl hc121 ?_
                      refine V_y (Y_move rfl) rfl rfl rfl ?_
                      refine V_ge rfl rfl rfl hc121 ?_
                      refine V_y (Y_move rfl) rfl rfl rfl ?_
                      refine V_ge rfl rfl rfl hc121 ?_
                      refine V_y (Y_addI rfl rfl) rfl rfl rfl ?_
                      refine V_ge rfl rfl rfl hc121 ?_
                      refine V_y (Y_move rfl) rfl rfl rfl ?_
                      refine V_ge rfl rfl rfl hc121 ?_
                      refine V_y (Y_addI rfl rfl) rfl rfl rfl ?_
                      refine V_ge rfl rfl rfl hc121 ?_
                      refine V_y (Y_move rfl) rfl rfl rfl ?_
                      refine V_ge rfl rfl rfl hc121 ?_
                      refine V_y (Y_addI rfl rfl) rfl rfl rfl ?_
                      refine V_ge rfl rfl rfl hc121 ?_
                      obtain ⟨x123, hx123, ho113⟩ := Option.bind_eq_some_iff.1 ho113
                      refine V_y (Y_sliceSLH hx123 Try.underlying9 rfl rfl rfl) rfl rfl rfl ?_
                      refine V_ge rfl rfl rfl hc121 ?_
                      obtain ⟨x124, hx124, ho113⟩ := Option.bind_eq_some_iff.1 ho113
                      refine V_call Try.call15 rfl rfl rfl rfl (portref2_WordsOf_c w73 hA x123 hx124) ?_
                      rintro v125 w127 ⟨_, rfl, h126, hk128⟩
                      obtain ⟨A129, ht130, hH131⟩ := Hp.addOwnd hH hB hA hk128 h126
                      replace h72 := Sl.tr h72 ht130
                      replace h33 := Sl.tr h33 ht130
                      replace hK := Tr.trans hK ht130
                      replace hr17 := Tr.trans hr17 ht130
                      replace hr46 := Tr.trans hr46 ht130
                      replace hr86 := Tr.trans hr86 ht130
                      replace hr101 := Tr.trans hr101 ht130
                      replace hr115 := Tr.trans hr115 ht130
                      replace hB := Nat.le_trans hB ht130.ex.size
                      replace hA := ht130.new
                      replace hH : Hp w.heap.size A129 w127 (obS (α := ByteArray) 9 v125 x124 :: obC b59 [.int .i64 s69.2.kind, .bool s69.2.not, v71] 38 :: obS (α := know_Part) 38 v30 s28.2.1.parts :: obC b10 [v30] 24 :: obC b1 [v32] 24 :: []) := hH131
                      refine V_ge rfl rfl rfl hc121 ?_
                      refine V_y (Y_lenSl (Hp.any (α := ByteArray) (e := 9) (v := v125) (l := x124) hH (i := 0) rfl) rfl Try.underlying36 rfl) rfl rfl rfl ?_
                      refine V_ge rfl rfl rfl hc121 ?_
                      refine V_y (Y_eql rfl rfl) rfl rfl rfl ?_
                      refine V_y (Y_pick_fe rfl hc121 rfl) rfl rfl rfl ?_
                      obtain rfl := Option.some.inj ho113
                      refine V_end (fun a ha132 => ?_)
                      replace hH : Hp w.heap.size A129 w127 (obC b1 [v32] 24 :: obS (α := ByteArray) 9 v125 x124 :: obC b59 [.int .i64 s69.2.kind, .bool s69.2.not, v71] 38 :: obS (α := know_Part) 38 v30 s28.2.1.parts :: obC b10 [v30] 24 :: []) := Hp.front hH (i := 4) rfl
                      replace hH : Hp w.heap.size A129 w127 (obC b10 [v30] 24 :: obC b1 [v32] 24 :: obS (α := ByteArray) 9 v125 x124 :: obC b59 [.int .i64 s69.2.kind, .bool s69.2.not, v71] 38 :: obS (α := know_Part) 38 v30 s28.2.1.parts :: []) := Hp.front hH (i := 4) rfl
                      replace hH : Hp w.heap.size A129 w127 (obS (α := know_Part) 38 v30 s28.2.1.parts :: obC b10 [v30] 24 :: obC b1 [v32] 24 :: obS (α := ByteArray) 9 v125 x124 :: obC b59 [.int .i64 s69.2.kind, .bool s69.2.not, v71] 38 :: []) := Hp.front hH (i := 4) rfl
                      replace hH : Hp w.heap.size A129 w127 (obC b59 [.int .i64 s69.2.kind, .bool s69.2.not, v71] 38 :: obS (α := know_Part) 38 v30 s28.2.1.parts :: obC b10 [v30] 24 :: obC b1 [v32] 24 :: obS (α := ByteArray) 9 v125 x124 :: []) := Hp.front hH (i := 4) rfl
                      replace hH : Hp w.heap.size A129 w127 (obC b59 [.int .i64 s69.2.kind, .bool s69.2.not, v71] 38 :: obS (α := know_Part) 38 v30 s28.2.1.parts :: obC b10 [v30] 24 :: obC b1 [v32] 24 :: []) := Hp.drop hH (i := 4) rfl
                      exact ⟨A129, ha132.sub ⟨rfl, rfl, rfl, rfl, rfl, rfl, rfl, rfl, trivial⟩, ⟨hH, hr115⟩⟩
                  rintro A119 w116 ⟨hH120, hk117⟩ a ha118
                  replace h72 := Sl.tr h72 hk117
                  replace h33 := Sl.tr h33 hk117
                  replace hK := Tr.trans hK hk117
                  replace hr17 := Tr.trans hr17 hk117
                  replace hr46 := Tr.trans hr46 hk117
                  replace hr86 := Tr.trans hr86 hk117
                  replace hr101 := Tr.trans hr101 hk117
                  replace hB := Nat.le_trans hB hk117.ex.size
                  replace hA := hk117.new
                  replace hH : Hp w.heap.size A119 w116 (obC b59 [.int .i64 s69.2.kind, .bool s69.2.not, v71] 38 :: obS (α := know_Part) 38 v30 s28.2.1.parts :: obC b10 [v30] 24 :: obC b1 [v32] 24 :: []) := hH120
                  refine C_at (n := ⟨174, [], none⟩) (fun _ _ => rfl) ?_ ha118
                  refine C_cond rfl (fun hc133 => ?_) (fun hc133 => ?_)
                  · rw [if_pos hc133] at ho99
                    refine C_seq ?_
                    refine C_region ?_
                    refine V_y (Y_move rfl) rfl rfl rfl ?_
                    refine V_y (Y_move rfl) rfl rfl rfl ?_
                    obtain ⟨x134, hx134, ho99⟩ := Option.bind_eq_some_iff.1 ho99
                    refine V_call Try.call13 rfl rfl rfl rfl (portref2_ReadQueryOf_1_c w116 hA s69.1 hx134) ?_
                    rintro _ w137 ⟨v135, rfl, h136, hk138⟩
                    have ht139 := Kp.tr hk138 hA hB
                    replace hH := Hp.kp hH hk138
                    replace h72 := Sl.tr h72 ht139
                    replace h33 := Sl.tr h33 ht139
                    replace hK := Tr.trans hK ht139
                    replace hr17 := Tr.trans hr17 ht139
                    replace hr46 := Tr.trans hr46 ht139
                    replace hr86 := Tr.trans hr86 ht139
                    replace hr101 := Tr.trans hr101 ht139
                    replace hB := Nat.le_trans hB ht139.ex.size
                    replace hA := ht139.new
                    refine V_y (Y_extract rfl rfl) rfl rfl rfl ?_
                    refine V_y (Y_extract rfl rfl) rfl rfl rfl ?_
                    refine V_y (Y_extract rfl rfl) rfl rfl rfl ?_
                    have h145 : (v135).oneCell' = true := by obtain ⟨_, _, e, _⟩ := Sl.form h136; rw [e]; rfl
                    refine V_storeC (off := 0) (ds := [v135]) hH (i := 3) rfl Try.sizeOf24 rfl (Nat.le_of_ble_eq_true rfl) (by exact (List.forall_mem_cons.2 ⟨h145, (fun _ h => nomatch h)⟩)) rfl hB hA rfl rfl ?_
                    intro w140 hH141 ht142
                    replace h136 := Sl.tr h136 ht142
                    replace h72 := Sl.tr h72 ht142
                    replace h33 := Sl.tr h33 ht142
                    replace hK := Tr.trans hK ht142
                    replace hr17 := Tr.trans hr17 ht142
                    replace hr46 := Tr.trans hr46 ht142
                    replace hr86 := Tr.trans hr86 ht142
                    replace hr101 := Tr.trans hr101 ht142
                    replace hB := Nat.le_trans hB ht142.ex.size
                    replace hA := ht142.new
                    replace hH : Hp w.heap.size A119 w140 (obC b59 [.int .i64 s69.2.kind, .bool s69.2.not, v71] 38 :: obS (α := know_Part) 38 v30 s28.2.1.parts :: obC b10 [v30] 24 :: obC b1 [v135] 24 :: []) := hH141
                    refine V_y (Y_assign rfl) rfl rfl rfl ?_
                    refine V_y (Y_assign rfl) rfl rfl rfl ?_
                    refine V_to (fun _ _ => rfl) ?_
                    obtain rfl := Option.some.inj ho99
                    rw [Lp.andThen_rt] at ho84
                    obtain rfl := Option.some.inj ho84
                    rw [Lp.andThen_rt] at ho44
                    obtain rfl := Option.some.inj ho44
                    rw [Lp.andThen_rt] at h37
                    obtain rfl := Option.some.inj h37
                    obtain rfl := (h38 : Lp.rt _ = _)
                    rw [Lp.andThen_rt] at hm
                    obtain rfl := Option.some.inj hm
                    refine C_ret ?_
                    try simp only [↓inBlock_ret, ↓then_ret]
                    exact retQ rfl (Res.l3 Try.results6 (RL.cell rfl (loadVar_agg (Hp.part (off := 0) (n := 1) (ds := [v135]) hH (i := 3) rfl rfl) Try.isAgg24 Try.sizeOf24)) (RL.tmp rfl) (RL.tmp rfl)) ⟨v135, rfl, (Sl.out h136 hA0 hK), hK.kp⟩
                  · rw [if_neg (nt hc133)] at ho99
                    refine C_skip_to (fun _ _ => rfl) ?_
                    refine C_seq ?_
                    refine C_region ?_
                    refine V_y (Y_move rfl) rfl rfl rfl ?_
                    refine V_y (Y_move rfl) rfl rfl rfl ?_
                    refine V_y (Y_addI rfl rfl) rfl rfl rfl ?_
                    refine V_y (Y_move rfl) rfl rfl rfl ?_
                    refine V_y (Y_addI rfl rfl) rfl rfl rfl ?_
                    refine V_y (Y_move rfl) rfl rfl rfl ?_
                    refine V_y (Y_addI rfl rfl) rfl rfl rfl ?_
                    obtain ⟨x146, hx146, ho99⟩ := Option.bind_eq_some_iff.1 ho99
                    refine V_y (Y_sliceSLH hx146 Try.underlying9 rfl rfl rfl) rfl rfl rfl ?_
                    obtain ⟨x147, hx147, ho99⟩ := Option.bind_eq_some_iff.1 ho99
                    refine V_call Try.call15 rfl rfl rfl rfl (portref2_WordsOf_c w116 hA x146 hx147) ?_
                    rintro v148 w150 ⟨_, rfl, h149, hk151⟩
                    obtain ⟨A152, ht153, hH154⟩ := Hp.addOwnd hH hB hA hk151 h149
                    replace h72 := Sl.tr h72 ht153
                    replace h33 := Sl.tr h33 ht153
                    replace hK := Tr.trans hK ht153
                    replace hr17 := Tr.trans hr17 ht153
                    replace hr46 := Tr.trans hr46 ht153
                    replace hr86 := Tr.trans hr86 ht153
                    replace hr101 := Tr.trans hr101 ht153
                    replace hB := Nat.le_trans hB ht153.ex.size
                    replace hA := ht153.new
                    replace hH : Hp w.heap.size A152 w150 (obS (α := ByteArray) 9 v148 x147 :: obC b59 [.int .i64 s69.2.kind, .bool s69.2.not, v71] 38 :: obS (α := know_Part) 38 v30 s28.2.1.parts :: obC b10 [v30] 24 :: obC b1 [v32] 24 :: []) := hH154
                    refine V_y (Y_fieldAddrC (off2 := 0) Try.underlying38 rfl Try.sizeOf3 (by decide) rfl rfl) rfl rfl rfl ?_
                    refine V_storeC (off := 0) (ds := [.int .i64 1, .bool s69.2.not, v71]) hH (i := 1) rfl Try.sizeOf3 rfl (Nat.le_of_ble_eq_true rfl) (by simp [Value.cells, Value.oneCell']) rfl hB hA rfl rfl ?_
                    intro w155 hH156 ht157
                    replace h72 := Sl.tr h72 ht157
                    replace h33 := Sl.tr h33 ht157
                    replace hK := Tr.trans hK ht157
                    replace hr17 := Tr.trans hr17 ht157
                    replace hr46 := Tr.trans hr46 ht157
                    replace hr86 := Tr.trans hr86 ht157
                    replace hr101 := Tr.trans hr101 ht157
                    replace hB := Nat.le_trans hB ht157.ex.size
                    replace hA := ht157.new
                    replace hH : Hp w.heap.size A152 w155 (obS (α := ByteArray) 9 v148 x147 :: obC b59 [.int .i64 1, .bool s69.2.not, v71] 38 :: obS (α := know_Part) 38 v30 s28.2.1.parts :: obC b10 [v30] 24 :: obC b1 [v32] 24 :: []) := hH156
                    refine V_y (Y_fieldAddrC (off2 := 2) Try.underlying38 rfl Try.sizeOf36 (by decide) rfl rfl) rfl rfl rfl ?_
                    obtain ⟨A158, ht159, h160, hH161⟩ := Hp.freeze (α := ByteArray) (v := v148) (l := x147) hH (i := 0) rfl hA
                    replace h72 := Sl.tr h72 ht159
                    replace h33 := Sl.tr h33 ht159
                    replace hK := Tr.trans hK ht159
                    replace hr17 := Tr.trans hr17 ht159
                    replace hr46 := Tr.trans hr46 ht159
                    replace hr86 := Tr.trans hr86 ht159
                    replace hr101 := Tr.trans hr101 ht159
                    replace hB := Nat.le_trans hB ht159.ex.size
                    replace hA := ht159.new
                    replace hH : Hp w.heap.size A158 w155 (obC b59 [.int .i64 1, .bool s69.2.not, v71] 38 :: obS (α := know_Part) 38 v30 s28.2.1.parts :: obC b10 [v30] 24 :: obC b1 [v32] 24 :: []) := hH161
                    have h168 : (v148).oneCell' = true := by obtain ⟨_, _, e, _⟩ := Sl.form h160; rw [e]; rfl
                    refine V_storeC (off := 2) (ds := [.int .i64 1, .bool s69.2.not, v148]) hH (i := 0) rfl Try.sizeOf36 (by rw [← Array.length_toList, Value.cells_one h168]; rfl) (Nat.le_of_ble_eq_true rfl) (by intro u hu; rw [Value.cells_one h168] at hu; simp at hu; subst hu; assumption) (by rw [Value.cells_one h168]; rfl) hB hA rfl rfl ?_
                    intro w163 hH164 ht165
                    replace h160 := Sl.tr h160 ht165
                    replace h72 := Sl.tr h72 ht165
                    replace h33 := Sl.tr h33 ht165
                    replace hK := Tr.trans hK ht165
                    replace hr17 := Tr.trans hr17 ht165
                    replace hr46 := Tr.trans hr46 ht165
                    replace hr86 := Tr.trans hr86 ht165
                    replace hr101 := Tr.trans hr101 ht165
                    replace hB := Nat.le_trans hB ht165.ex.size
                    replace hA := ht165.new
                    replace hH : Hp w.heap.size A158 w163 (obC b59 [.int .i64 1, .bool s69.2.not, v148] 38 :: obS (α := know_Part) 38 v30 s28.2.1.parts :: obC b10 [v30] 24 :: obC b1 [v32] 24 :: []) := hH164
                    refine V_to (fun _ _ => rfl) ?_
                    refine C_region ?_
                    refine V_y (Y_move rfl) rfl rfl rfl ?_
                    refine V_y (Y_move rfl) rfl rfl rfl ?_
                    refine V_y (Y_addI rfl rfl) rfl rfl rfl ?_
                    refine V_y (Y_addI rfl rfl) rfl rfl rfl ?_
                    refine V_y (Y_assign rfl) rfl rfl rfl ?_
                    obtain rfl := Option.some.inj ho99
                    refine V_end (fun a ha169 => ?_)
                    exact ⟨((w64 (s69.1 + (w64 ((strings_IndexByte x112 34) + 2))), (⟨1, s69.2.not, x147⟩ : know_Part), s28.2.2), v148, v32, A158), ha169.sub ⟨rfl, rfl, rfl, rfl, rfl, rfl, trivial⟩, ⟨rfl, h160, h33, hH, hr101⟩⟩
                · rw [if_neg (nt hc111)] at ho99
                  refine C_seq ?_
                  refine C_region ?_
                  refine V_y (Y_move rfl) rfl rfl rfl ?_
                  refine V_y (Y_move rfl) rfl rfl rfl ?_
                  refine V_y (Y_lenStr rfl Try.underlying9 rfl) rfl rfl rfl ?_
                  refine V_y (Y_lss rfl rfl) rfl rfl rfl ?_
                  refine V_y (Y_move rfl) rfl rfl rfl ?_
                  obtain ⟨s171, hs171, ho99⟩ := Option.bind_eq_some_iff.1 ho99
                  refine V_cut 5 (fun _ : Unit => [(0, .string s), (2, .pointer (some ⟨b1, 0, none⟩)), (5, .pointer (some ⟨b10, 0, none⟩)), (6, .func (.func 13) #[] #[]), (7, .int .i64 s69.1), (8, .pointer (some ⟨b59, 0, none⟩)), (101, .bool s171)]) (fun _ w' => w73 = w') ?_ ?_
                  · simp only [List.take, List.drop]
                    rcases Bool.eq_false_or_eq_true (decide (s69.1 < (s.size : Int))) with hc170 | hc170
                    · rw [if_pos hc170] at hs171
                      refine V_ge rfl rfl rfl hc170 ?_
                      refine V_y (Y_move rfl) rfl rfl rfl ?_
                      refine V_ge rfl rfl rfl hc170 ?_
                      refine V_y (Y_move rfl) rfl rfl rfl ?_
                      refine V_ge rfl rfl rfl hc170 ?_
                      obtain ⟨x172, hx172, hs171⟩ := Option.bind_eq_some_iff.1 hs171
                      refine V_y (Y_indexS hx172 Try.underlying9 rfl rfl) rfl rfl rfl ?_
                      refine V_ge rfl rfl rfl hc170 ?_
                      refine V_call Try.call16 rfl rfl rfl rfl (portref2_isWordByte_c w73 (x172.toNat : Int)) ?_
                      rintro _ _ ⟨rfl, rfl⟩
                      refine V_y (Y_pick_te rfl hc170 rfl) rfl rfl rfl ?_
                      obtain rfl := Option.some.inj hs171
                      exact V_end fun a ha => ⟨(), ha.sub ⟨rfl, rfl, rfl, rfl, rfl, rfl, rfl, trivial⟩, rfl⟩
                    · rw [if_neg (nt hc170)] at hs171
                      refine V_gn rfl rfl rfl hc170 rfl rfl rfl ?_
                      refine V_gn rfl rfl rfl hc170 rfl rfl rfl ?_
                      refine V_gn rfl rfl rfl hc170 rfl rfl rfl ?_
                      refine V_gn rfl rfl rfl hc170 rfl rfl rfl ?_
                      refine V_y (Y_pick_fe rfl hc170 rfl) rfl rfl rfl ?_
                      obtain rfl := Option.some.inj hs171
                      exact V_end fun a ha => ⟨(), ha.sub ⟨rfl, rfl, rfl, rfl, rfl, rfl, rfl, trivial⟩, rfl⟩
                  simp only [List.take, List.drop]
                  rintro _ _ rfl
                  refine V_y (Y_assign rfl) rfl rfl rfl ?_
                  refine V_to (fun _ _ => rfl) ?_
                  obtain ⟨o173, ho173, ho99⟩ := Option.bind_eq_some_iff.1 ho99
                  refine C_cutG (ι := ((Int × know_Part × know_Query) × Value × Value × (Nat → Prop))) (fun ⟨s174, v176, v178, A183⟩ => [(0, .string s), (2, .pointer (some ⟨b1, 0, none⟩)), (5, .pointer (some ⟨b10, 0, none⟩)), (6, .func (.func 13) #[] #[]), (7, .int .i64 s174.1), (8, .pointer (some ⟨b59, 0, none⟩))]) (fun ⟨s174, v176, v178, A183⟩ => fun w' => o173 = .fin s174 ∧ Sl A183 w' v176 s174.2.1.words ∧ Sl A183 w' v178 s174.2.2.parts ∧ Hp w.heap.size A183 w' (obC b59 [.int .i64 s174.2.1.kind, .bool s174.2.1.not, v176] 38 :: obS (α := know_Part) 38 v30 s28.2.1.parts :: obC b10 [v30] 24 :: obC b1 [v178] 24 :: []) ∧ Tr w.heap.size A76 w73 A183 w') ?_ ?_
                  · have hr175 : Tr w.heap.size A76 w73 A76 w73 := Tr.refl hA
                    refine C_cond rfl (fun hc185 => ?_) (fun hc185 => ?_)
                    · rw [if_pos hc185] at ho173
                      refine C_seq ?_
                      refine C_region ?_
                      refine V_y (Y_move rfl) rfl rfl rfl ?_
                      refine V_y (Y_assign rfl) rfl rfl rfl ?_
                      refine V_to (fun _ _ => rfl) ?_
                      refine C_seq ?_
                      obtain ⟨o186, ho186, ho173⟩ := Option.bind_eq_some_iff.1 ho173
                      refine C_cutG (ι := ((Int × know_Query) × Value × (Nat → Prop))) (fun ⟨s187, v193, A195⟩ => [(0, .string s), (2, .pointer (some ⟨b1, 0, none⟩)), (5, .pointer (some ⟨b10, 0, none⟩)), (6, .func (.func 13) #[] #[]), (7, .int .i64 s69.1), (8, .pointer (some ⟨b59, 0, none⟩)), (10, .int .i64 s187.1)]) (fun ⟨s187, v193, A195⟩ => fun w' => o186 = .fin s187 ∧ Sl A195 w' v193 s187.2.parts ∧ Hp w.heap.size A195 w' (obC b59 [.int .i64 s69.2.kind, .bool s69.2.not, v71] 38 :: obS (α := know_Part) 38 v30 s28.2.1.parts :: obC b10 [v30] 24 :: obC b1 [v193] 24 :: []) ∧ Tr w.heap.size A76 w73 A195 w') ?_ ?_
                      · refine C_block ?_
                        refine C_while ho186 (fun s197 a w' => ∃ i : (Value × (Nat → Prop)), Has ⟨174, [], none⟩ a ([(0, .string s), (2, .pointer (some ⟨b1, 0, none⟩)), (5, .pointer (some ⟨b10, 0, none⟩)), (6, .func (.func 13) #[] #[]), (7, .int .i64 s69.1), (8, .pointer (some ⟨b59, 0, none⟩)), (10, .int .i64 s197.1)]) ∧ Sl i.2 w' i.1 s197.2.parts ∧ Hp w.heap.size i.2 w' (obC b59 [.int .i64 s69.2.kind, .bool s69.2.not, v71] 38 :: obS (α := know_Part) 38 v30 s28.2.1.parts :: obC b10 [v30] 24 :: obC b1 [i.1] 24 :: []) ∧ Tr w.heap.size A76 w73 i.2 w') (fun a ha => ⟨(v32, A76), ha.sub ⟨rfl, rfl, rfl, rfl, rfl, rfl, rfl, trivial⟩, ⟨h33, hH, Tr.refl hA⟩⟩) ?_
                        rintro K s197 a w198 ⟨⟨v199, A201⟩, ha229, h200, hH202, hr188⟩ K209
                        refine C_of ?_ ha229
                        replace h72 := Sl.tr h72 hr188
                        replace hK := Tr.trans hK hr188
                        replace hr17 := Tr.trans hr17 hr188
                        replace hr46 := Tr.trans hr46 hr188
                        replace hr86 := Tr.trans hr86 hr188
                        replace hr101 := Tr.trans hr101 hr188
                        replace hr175 := Tr.trans hr175 hr188
                        replace hB := Nat.le_trans hB hr188.ex.size
                        replace hA := hr188.new
                        replace hH : Hp w.heap.size A201 w198 (obC b59 [.int .i64 s69.2.kind, .bool s69.2.not, v71] 38 :: obS (α := know_Part) 38 v30 s28.2.1.parts :: obC b10 [v30] 24 :: obC b1 [v199] 24 :: []) := hH202
                        obtain ⟨x203, h204, h205⟩ := K209
                        refine C_seq ?_
                        refine C_seq ?_
                        refine C_region ?_
                        refine V_y (Y_move rfl) rfl rfl rfl ?_
                        refine V_y (Y_move rfl) rfl rfl rfl ?_
                        refine V_y (Y_lenStr rfl Try.underlying9 rfl) rfl rfl rfl ?_
                        refine V_y (Y_lss rfl rfl) rfl rfl rfl ?_
                        refine V_y (Y_move rfl) rfl rfl rfl ?_
                        obtain ⟨s211, hs211, h204⟩ := Option.bind_eq_some_iff.1 h204
                        refine V_cut 5 (fun _ : Unit => [(0, .string s), (2, .pointer (some ⟨b1, 0, none⟩)), (5, .pointer (some ⟨b10, 0, none⟩)), (6, .func (.func 13) #[] #[]), (7, .int .i64 s69.1), (8, .pointer (some ⟨b59, 0, none⟩)), (10, .int .i64 s197.1), (112, .bool s211)]) (fun _ w' => w198 = w') ?_ ?_
                        · simp only [List.take, List.drop]
                          rcases Bool.eq_false_or_eq_true (decide (s197.1 < (s.size : Int))) with hc210 | hc210
                          · rw [if_pos hc210] at hs211
                            refine V_ge rfl rfl rfl hc210 ?_
                            refine V_y (Y_move rfl) rfl rfl rfl ?_
                            refine V_ge rfl rfl rfl hc210 ?_
                            refine V_y (Y_move rfl) rfl rfl rfl ?_
                            refine V_ge rfl rfl rfl hc210 ?_
                            obtain ⟨x212, hx212, hs211⟩ := Option.bind_eq_some_iff.1 hs211
                            refine V_y (Y_indexS hx212 Try.underlying9 rfl rfl) rfl rfl rfl ?_
                            refine V_ge rfl rfl rfl hc210 ?_
                            refine V_call Try.call16 rfl rfl rfl rfl (portref2_isWordByte_c w198 (x212.toNat : Int)) ?_
                            rintro _ _ ⟨rfl, rfl⟩
                            refine V_y (Y_pick_te rfl hc210 rfl) rfl rfl rfl ?_
                            obtain rfl := Option.some.inj hs211
                            exact V_end fun a ha => ⟨(), ha.sub ⟨rfl, rfl, rfl, rfl, rfl, rfl, rfl, rfl, trivial⟩, rfl⟩
                          · rw [if_neg (nt hc210)] at hs211
                            refine V_gn rfl rfl rfl hc210 rfl rfl rfl ?_
                            refine V_gn rfl rfl rfl hc210 rfl rfl rfl ?_
                            refine V_gn rfl rfl rfl hc210 rfl rfl rfl ?_
                            refine V_gn rfl rfl rfl hc210 rfl rfl rfl ?_
                            refine V_y (Y_pick_fe rfl hc210 rfl) rfl rfl rfl ?_
                            obtain rfl := Option.some.inj hs211
                            exact V_end fun a ha => ⟨(), ha.sub ⟨rfl, rfl, rfl, rfl, rfl, rfl, rfl, rfl, trivial⟩, rfl⟩
                        simp only [List.take, List.drop]
                        rintro _ _ rfl
                        refine V_to (fun _ _ => rfl) ?_
                        refine C_cond rfl (fun hc213 => ?_) (fun hc213 => ?_)
                        · rw [if_pos hc213] at h204
                          refine C_skip_to (fun _ _ => rfl) ?_
                          refine C_block ?_
                          refine C_seq ?_
                          refine C_seq ?_
                          refine C_region ?_
                          refine V_y (Y_move rfl) rfl rfl rfl ?_
                          refine V_y (Y_move rfl) rfl rfl rfl ?_
                          refine V_y (Y_subI rfl rfl) rfl rfl rfl ?_
                          refine V_y (Y_eql rfl rfl) rfl rfl rfl ?_
                          refine V_to (fun _ _ => rfl) ?_
                          refine C_cond rfl (fun hc214 => ?_) (fun hc214 => ?_)
                          · rw [if_pos hc214] at h204
                            refine C_seq ?_
                            refine C_region ?_
                            refine V_y (Y_move rfl) rfl rfl rfl ?_
                            refine V_y (Y_move rfl) rfl rfl rfl ?_
                            obtain ⟨x215, hx215, h204⟩ := Option.bind_eq_some_iff.1 h204
                            refine V_call Try.call13 rfl rfl rfl rfl (portref2_ReadQueryOf_1_c w198 hA s197.1 hx215) ?_
                            rintro _ w218 ⟨v216, rfl, h217, hk219⟩
                            have ht220 := Kp.tr hk219 hA hB
                            replace hH := Hp.kp hH hk219
                            replace h72 := Sl.tr h72 ht220
                            replace h200 := Sl.tr h200 ht220
                            replace hK := Tr.trans hK ht220
                            replace hr17 := Tr.trans hr17 ht220
                            replace hr46 := Tr.trans hr46 ht220
                            replace hr86 := Tr.trans hr86 ht220
                            replace hr101 := Tr.trans hr101 ht220
                            replace hr175 := Tr.trans hr175 ht220
                            replace hr188 := Tr.trans hr188 ht220
                            replace hB := Nat.le_trans hB ht220.ex.size
                            replace hA := ht220.new
                            refine V_y (Y_extract rfl rfl) rfl rfl rfl ?_
                            refine V_y (Y_extract rfl rfl) rfl rfl rfl ?_
                            refine V_y (Y_extract rfl rfl) rfl rfl rfl ?_
                            have h226 : (v216).oneCell' = true := by obtain ⟨_, _, e, _⟩ := Sl.form h217; rw [e]; rfl
                            refine V_storeC (off := 0) (ds := [v216]) hH (i := 3) rfl Try.sizeOf24 rfl (Nat.le_of_ble_eq_true rfl) (by exact (List.forall_mem_cons.2 ⟨h226, (fun _ h => nomatch h)⟩)) rfl hB hA rfl rfl ?_
                            intro w221 hH222 ht223
                            replace h217 := Sl.tr h217 ht223
                            replace h72 := Sl.tr h72 ht223
                            replace h200 := Sl.tr h200 ht223
                            replace hK := Tr.trans hK ht223
                            replace hr17 := Tr.trans hr17 ht223
                            replace hr46 := Tr.trans hr46 ht223
                            replace hr86 := Tr.trans hr86 ht223
                            replace hr101 := Tr.trans hr101 ht223
                            replace hr175 := Tr.trans hr175 ht223
                            replace hr188 := Tr.trans hr188 ht223
                            replace hB := Nat.le_trans hB ht223.ex.size
                            replace hA := ht223.new
                            replace hH : Hp w.heap.size A201 w221 (obC b59 [.int .i64 s69.2.kind, .bool s69.2.not, v71] 38 :: obS (α := know_Part) 38 v30 s28.2.1.parts :: obC b10 [v30] 24 :: obC b1 [v216] 24 :: []) := hH222
                            refine V_y (Y_assign rfl) rfl rfl rfl ?_
                            refine V_y (Y_assign rfl) rfl rfl rfl ?_
                            refine V_to (fun _ _ => rfl) ?_
                            obtain rfl := Option.some.inj h204
                            obtain rfl := (h205 : Lp.rt _ = _)
                            rw [Lp.andThen_rt] at ho173
                            obtain rfl := Option.some.inj ho173
                            rw [Lp.andThen_rt] at ho99
                            obtain rfl := Option.some.inj ho99
                            rw [Lp.andThen_rt] at ho84
                            obtain rfl := Option.some.inj ho84
                            rw [Lp.andThen_rt] at ho44
                            obtain rfl := Option.some.inj ho44
                            rw [Lp.andThen_rt] at h37
                            obtain rfl := Option.some.inj h37
                            obtain rfl := (h38 : Lp.rt _ = _)
                            rw [Lp.andThen_rt] at hm
                            obtain rfl := Option.some.inj hm
                            refine C_ret ?_
                            try simp only [↓inBlock_ret, ↓then_ret]
                            exact retQ rfl (Res.l3 Try.results6 (RL.cell rfl (loadVar_agg (Hp.part (off := 0) (n := 1) (ds := [v216]) hH (i := 3) rfl rfl) Try.isAgg24 Try.sizeOf24)) (RL.tmp rfl) (RL.tmp rfl)) ⟨v216, rfl, (Sl.out h217 hA0 hK), hK.kp⟩
                          · rw [if_neg (nt hc214)] at h204
                            refine C_skip_to (fun _ _ => rfl) ?_
                            refine C_region ?_
                            refine V_y (Y_move rfl) rfl rfl rfl ?_
                            refine V_y (Y_addI rfl rfl) rfl rfl rfl ?_
                            refine V_y (Y_assign rfl) rfl rfl rfl ?_
                            obtain rfl := Option.some.inj h204
                            refine V_end (fun a ha227 => ?_)
                            exact ⟨(w64 (s197.1 + 1), s197.2), h205, ⟨(v199, A201), ha227.sub ⟨rfl, rfl, rfl, rfl, rfl, rfl, rfl, trivial⟩, ⟨h200, hH, hr188⟩⟩⟩
                        · rw [if_neg (nt hc213)] at h204
                          obtain rfl := Option.some.inj h204
                          refine C_exit (fun a ha228 => ?_)
                          exact ⟨((s197.1, s197.2), v199, A201), ha228.sub ⟨rfl, rfl, rfl, rfl, rfl, rfl, rfl, trivial⟩, ⟨h205.symm, h200, hH, hr188⟩⟩
                      rintro ⟨s187, v193, A195⟩ w190 ⟨rfl, h194, hH196, hk191⟩ a ha192
                      rw [Lp.andThen_fin] at ho173
                      replace h72 := Sl.tr h72 hk191
                      replace hK := Tr.trans hK hk191
                      replace hr17 := Tr.trans hr17 hk191
                      replace hr46 := Tr.trans hr46 hk191
                      replace hr86 := Tr.trans hr86 hk191
                      replace hr101 := Tr.trans hr101 hk191
                      replace hr175 := Tr.trans hr175 hk191
                      replace hB := Nat.le_trans hB hk191.ex.size
                      replace hA := hk191.new
                      replace hH : Hp w.heap.size A195 w190 (obC b59 [.int .i64 s69.2.kind, .bool s69.2.not, v71] 38 :: obS (α := know_Part) 38 v30 s28.2.1.parts :: obC b10 [v30] 24 :: obC b1 [v193] 24 :: []) := hH196
                      refine C_at (n := ⟨174, [], none⟩) (fun _ _ => rfl) ?_ ha192
                      refine C_seq ?_
                      refine C_region ?_
                      refine V_y (Y_move rfl) rfl rfl rfl ?_
                      refine V_y (Y_move rfl) rfl rfl rfl ?_
                      refine V_y (Y_move rfl) rfl rfl rfl ?_
                      obtain ⟨x230, hx230, ho173⟩ := Option.bind_eq_some_iff.1 ho173
                      refine V_y (Y_sliceSLH hx230 Try.underlying9 rfl rfl rfl) rfl rfl rfl ?_
                      obtain ⟨x231, hx231, ho173⟩ := Option.bind_eq_some_iff.1 ho173
                      refine V_call Try.call17 rfl rfl rfl rfl (portref2_lower_c w190 hA x230 hx231) ?_
                      rintro _ w232 ⟨rfl, hk233⟩
                      have ht234 := Kp.tr hk233 hA hB
                      replace hH := Hp.kp hH hk233
                      replace h72 := Sl.tr h72 ht234
                      replace h194 := Sl.tr h194 ht234
                      replace hK := Tr.trans hK ht234
                      replace hr17 := Tr.trans hr17 ht234
                      replace hr46 := Tr.trans hr46 ht234
                      replace hr86 := Tr.trans hr86 ht234
                      replace hr101 := Tr.trans hr101 ht234
                      replace hr175 := Tr.trans hr175 ht234
                      replace hB := Nat.le_trans hB ht234.ex.size
                      replace hA := ht234.new
                      refine V_buildSlice (l := ([x231] : List ByteArray)) (len := 1) Try.underlying36 Try.sizeOf9 Try.zeroValue9 rfl (by with_unfolding_all rfl) (by decide) (by decide) hA ⟨[.string x231], _, rfl, rfl, rfl⟩ rfl rfl ?_
                      intro v235 w236 hk238 h237
                      have ht239 := Kp.tr hk238 hA hB
                      replace hH := Hp.kp hH hk238
                      replace h72 := Sl.tr h72 ht239
                      replace h194 := Sl.tr h194 ht239
                      replace hK := Tr.trans hK ht239
                      replace hr17 := Tr.trans hr17 ht239
                      replace hr46 := Tr.trans hr46 ht239
                      replace hr86 := Tr.trans hr86 ht239
                      replace hr101 := Tr.trans hr101 ht239
                      replace hr175 := Tr.trans hr175 ht239
                      replace hB := Nat.le_trans hB ht239.ex.size
                      replace hA := ht239.new
                      refine V_y (Y_fieldAddrC (off2 := 2) Try.underlying38 rfl Try.sizeOf36 (by decide) rfl rfl) rfl rfl rfl ?_
                      have h245 : (v235).oneCell' = true := by obtain ⟨_, _, e, _⟩ := Sl.form h237; rw [e]; rfl
                      refine V_storeC (off := 2) (ds := [.int .i64 s69.2.kind, .bool s69.2.not, v235]) hH (i := 0) rfl Try.sizeOf36 (by rw [← Array.length_toList, Value.cells_one h245]; rfl) (Nat.le_of_ble_eq_true rfl) (by intro u hu; rw [Value.cells_one h245] at hu; simp at hu; subst hu; assumption) (by rw [Value.cells_one h245]; rfl) hB hA rfl rfl ?_
                      intro w240 hH241 ht242
                      replace h237 := Sl.tr h237 ht242
                      replace h72 := Sl.tr h72 ht242
                      replace h194 := Sl.tr h194 ht242
                      replace hK := Tr.trans hK ht242
                      replace hr17 := Tr.trans hr17 ht242
                      replace hr46 := Tr.trans hr46 ht242
                      replace hr86 := Tr.trans hr86 ht242
                      replace hr101 := Tr.trans hr101 ht242
                      replace hr175 := Tr.trans hr175 ht242
                      replace hB := Nat.le_trans hB ht242.ex.size
                      replace hA := ht242.new
                      replace hH : Hp w.heap.size A195 w240 (obC b59 [.int .i64 s69.2.kind, .bool s69.2.not, v235] 38 :: obS (α := know_Part) 38 v30 s28.2.1.parts :: obC b10 [v30] 24 :: obC b1 [v193] 24 :: []) := hH241
                      refine V_to (fun _ _ => rfl) ?_
                      refine C_seq ?_
                      refine C_region ?_
                      refine V_y (Y_move rfl) rfl rfl rfl ?_
                      refine V_y (Y_assign rfl) rfl rfl rfl ?_
                      refine V_to (fun _ _ => rfl) ?_
                      refine C_seq ?_
                      refine C_region ?_
                      refine V_y (Y_move rfl) rfl rfl rfl ?_
                      refine V_y (Y_move rfl) rfl rfl rfl ?_
                      refine V_y (Y_lenStr rfl Try.underlying9 rfl) rfl rfl rfl ?_
                      refine V_y (Y_lss rfl rfl) rfl rfl rfl ?_
                      refine V_y (Y_move rfl) rfl rfl rfl ?_
                      obtain ⟨s247, hs247, ho173⟩ := Option.bind_eq_some_iff.1 ho173
                      refine V_cut 5 (fun _ : Unit => [(0, .string s), (2, .pointer (some ⟨b1, 0, none⟩)), (5, .pointer (some ⟨b10, 0, none⟩)), (6, .func (.func 13) #[] #[]), (7, .int .i64 s187.1), (8, .pointer (some ⟨b59, 0, none⟩)), (142, .bool s247)]) (fun _ w' => w240 = w') ?_ ?_
                      · simp only [List.take, List.drop]
                        rcases Bool.eq_false_or_eq_true (decide (s187.1 < (s.size : Int))) with hc246 | hc246
                        · rw [if_pos hc246] at hs247
                          refine V_ge rfl rfl rfl hc246 ?_
                          refine V_y (Y_move rfl) rfl rfl rfl ?_
                          refine V_ge rfl rfl rfl hc246 ?_
                          refine V_y (Y_move rfl) rfl rfl rfl ?_
                          refine V_ge rfl rfl rfl hc246 ?_
                          obtain ⟨x248, hx248, hs247⟩ := Option.bind_eq_some_iff.1 hs247
                          refine V_y (Y_indexS hx248 Try.underlying9 rfl rfl) rfl rfl rfl ?_
                          refine V_ge rfl rfl rfl hc246 ?_
                          refine V_y (Y_eql rfl rfl) rfl rfl rfl ?_
                          refine V_y (Y_pick_te rfl hc246 rfl) rfl rfl rfl ?_
                          obtain rfl := Option.some.inj hs247
                          exact V_end fun a ha => ⟨(), ha.sub ⟨rfl, rfl, rfl, rfl, rfl, rfl, rfl, trivial⟩, rfl⟩
                        · rw [if_neg (nt hc246)] at hs247
                          refine V_gn rfl rfl rfl hc246 rfl rfl rfl ?_
                          refine V_gn rfl rfl rfl hc246 rfl rfl rfl ?_
                          refine V_gn rfl rfl rfl hc246 rfl rfl rfl ?_
                          refine V_gn rfl rfl rfl hc246 rfl rfl rfl ?_
                          refine V_y (Y_pick_fe rfl hc246 rfl) rfl rfl rfl ?_
                          obtain rfl := Option.some.inj hs247
                          exact V_end fun a ha => ⟨(), ha.sub ⟨rfl, rfl, rfl, rfl, rfl, rfl, rfl, trivial⟩, rfl⟩
                      simp only [List.take, List.drop]
                      rintro _ _ rfl
                      refine V_to (fun _ _ => rfl) ?_
                      obtain ⟨s250, ho249, ho173⟩ := Option.bind_eq_some_iff.1 ho173
                      refine C_cutG (ι := (Value × (Nat → Prop))) (fun ⟨v252, A257⟩ => [(0, .string s), (2, .pointer (some ⟨b1, 0, none⟩)), (5, .pointer (some ⟨b10, 0, none⟩)), (6, .func (.func 13) #[] #[]), (7, .int .i64 s250.1), (8, .pointer (some ⟨b59, 0, none⟩))]) (fun ⟨v252, A257⟩ => fun w' => Sl A257 w' v252 s250.2.words ∧ Hp w.heap.size A257 w' (obC b59 [.int .i64 s250.2.kind, .bool s250.2.not, v252] 38 :: obS (α := know_Part) 38 v30 s28.2.1.parts :: obC b10 [v30] 24 :: obC b1 [v193] 24 :: []) ∧ Tr w.heap.size A195 w240 A257 w') ?_ ?_
                      · have hr251 : Tr w.heap.size A195 w240 A195 w240 := Tr.refl hA
                        refine C_cond rfl (fun hc259 => ?_) (fun hc259 => ?_)
                        · rw [if_pos hc259] at ho249
                          refine C_seq ?_
                          refine C_region ?_
                          refine V_y (Y_fieldAddrC (off2 := 0) Try.underlying38 rfl Try.sizeOf3 (by decide) rfl rfl) rfl rfl rfl ?_
                          refine V_storeC (off := 0) (ds := [.int .i64 2, .bool s69.2.not, v235]) hH (i := 0) rfl Try.sizeOf3 rfl (Nat.le_of_ble_eq_true rfl) (by simp [Value.cells, Value.oneCell']) rfl hB hA rfl rfl ?_
                          intro w260 hH261 ht262
                          replace h237 := Sl.tr h237 ht262
                          replace h194 := Sl.tr h194 ht262
                          replace hK := Tr.trans hK ht262
                          replace hr17 := Tr.trans hr17 ht262
                          replace hr46 := Tr.trans hr46 ht262
                          replace hr86 := Tr.trans hr86 ht262
                          replace hr101 := Tr.trans hr101 ht262
                          replace hr175 := Tr.trans hr175 ht262
                          replace hr251 := Tr.trans hr251 ht262
                          replace hB := Nat.le_trans hB ht262.ex.size
                          replace hA := ht262.new
                          replace hH : Hp w.heap.size A195 w260 (obC b59 [.int .i64 2, .bool s69.2.not, v235] 38 :: obS (α := know_Part) 38 v30 s28.2.1.parts :: obC b10 [v30] 24 :: obC b1 [v193] 24 :: []) := hH261
                          refine V_to (fun _ _ => rfl) ?_
                          refine C_region ?_
                          refine V_y (Y_move rfl) rfl rfl rfl ?_
                          refine V_y (Y_addI rfl rfl) rfl rfl rfl ?_
                          refine V_y (Y_assign rfl) rfl rfl rfl ?_
                          obtain rfl := Option.some.inj ho249
                          refine V_end (fun a ha263 => ?_)
                          exact ⟨(v235, A195), ha263.sub ⟨rfl, rfl, rfl, rfl, rfl, rfl, trivial⟩, ⟨h237, hH, hr251⟩⟩
                        · rw [if_neg (nt hc259)] at ho249
                          obtain rfl := Option.some.inj ho249
                          refine C_skip (fun a ha264 => ?_)
                          exact ⟨(v235, A195), ha264.sub ⟨rfl, rfl, rfl, rfl, rfl, rfl, trivial⟩, ⟨h237, hH, hr251⟩⟩
                      rintro ⟨v252, A257⟩ w254 ⟨h253, hH258, hk255⟩ a ha256
                      replace h194 := Sl.tr h194 hk255
                      replace hK := Tr.trans hK hk255
                      replace hr17 := Tr.trans hr17 hk255
                      replace hr46 := Tr.trans hr46 hk255
                      replace hr86 := Tr.trans hr86 hk255
                      replace hr101 := Tr.trans hr101 hk255
                      replace hr175 := Tr.trans hr175 hk255
                      replace hB := Nat.le_trans hB hk255.ex.size
                      replace hA := hk255.new
                      replace hH : Hp w.heap.size A257 w254 (obC b59 [.int .i64 s250.2.kind, .bool s250.2.not, v252] 38 :: obS (α := know_Part) 38 v30 s28.2.1.parts :: obC b10 [v30] 24 :: obC b1 [v193] 24 :: []) := hH258
                      obtain rfl := Option.some.inj ho173
                      exact ⟨((s250.1, s250.2, s187.2), v252, v193, A257), ha256.sub ⟨rfl, rfl, rfl, rfl, rfl, rfl, trivial⟩, ⟨rfl, h253, h194, hH, hr175⟩⟩
                    · rw [if_neg (nt hc185)] at ho173
                      refine C_seq ?_
                      refine C_region ?_
                      refine V_y (Y_move rfl) rfl rfl rfl ?_
                      refine V_y (Y_move rfl) rfl rfl rfl ?_
                      obtain ⟨x266, hx266, ho173⟩ := Option.bind_eq_some_iff.1 ho173
                      refine V_call Try.call13 rfl rfl rfl rfl (portref2_ReadQueryOf_1_c w73 hA s69.1 hx266) ?_
                      rintro _ w269 ⟨v267, rfl, h268, hk270⟩
                      have ht271 := Kp.tr hk270 hA hB
                      replace hH := Hp.kp hH hk270
                      replace h72 := Sl.tr h72 ht271
                      replace h33 := Sl.tr h33 ht271
                      replace hK := Tr.trans hK ht271
                      replace hr17 := Tr.trans hr17 ht271
                      replace hr46 := Tr.trans hr46 ht271
                      replace hr86 := Tr.trans hr86 ht271
                      replace hr101 := Tr.trans hr101 ht271
                      replace hr175 := Tr.trans hr175 ht271
                      replace hB := Nat.le_trans hB ht271.ex.size
                      replace hA := ht271.new
                      refine V_y (Y_extract rfl rfl) rfl rfl rfl ?_
                      refine V_y (Y_extract rfl rfl) rfl rfl rfl ?_
                      refine V_y (Y_extract rfl rfl) rfl rfl rfl ?_
                      have h277 : (v267).oneCell' = true := by obtain ⟨_, _, e, _⟩ := Sl.form h268; rw [e]; rfl
                      refine V_storeC (off := 0) (ds := [v267]) hH (i := 3) rfl Try.sizeOf24 rfl (Nat.le_of_ble_eq_true rfl) (by exact (List.forall_mem_cons.2 ⟨h277, (fun _ h => nomatch h)⟩)) rfl hB hA rfl rfl ?_
                      intro w272 hH273 ht274
                      replace h268 := Sl.tr h268 ht274
                      replace h72 := Sl.tr h72 ht274
                      replace h33 := Sl.tr h33 ht274
                      replace hK := Tr.trans hK ht274
                      replace hr17 := Tr.trans hr17 ht274
                      replace hr46 := Tr.trans hr46 ht274
                      replace hr86 := Tr.trans hr86 ht274
                      replace hr101 := Tr.trans hr101 ht274
                      replace hr175 := Tr.trans hr175 ht274
                      replace hB := Nat.le_trans hB ht274.ex.size
                      replace hA := ht274.new
                      replace hH : Hp w.heap.size A76 w272 (obC b59 [.int .i64 s69.2.kind, .bool s69.2.not, v71] 38 :: obS (α := know_Part) 38 v30 s28.2.1.parts :: obC b10 [v30] 24 :: obC b1 [v267] 24 :: []) := hH273
                      refine V_y (Y_assign rfl) rfl rfl rfl ?_
                      refine V_y (Y_assign rfl) rfl rfl rfl ?_
                      refine V_to (fun _ _ => rfl) ?_
                      obtain rfl := Option.some.inj ho173
                      rw [Lp.andThen_rt] at ho99
                      obtain rfl := Option.some.inj ho99
                      rw [Lp.andThen_rt] at ho84
                      obtain rfl := Option.some.inj ho84
                      rw [Lp.andThen_rt] at ho44
                      obtain rfl := Option.some.inj ho44
                      rw [Lp.andThen_rt] at h37
                      obtain rfl := Option.some.inj h37
                      obtain rfl := (h38 : Lp.rt _ = _)
                      rw [Lp.andThen_rt] at hm
                      obtain rfl := Option.some.inj hm
                      refine C_ret ?_
                      try simp only [↓inBlock_ret, ↓then_ret]
                      exact retQ rfl (Res.l3 Try.results6 (RL.cell rfl (loadVar_agg (Hp.part (off := 0) (n := 1) (ds := [v267]) hH (i := 3) rfl rfl) Try.isAgg24 Try.sizeOf24)) (RL.tmp rfl) (RL.tmp rfl)) ⟨v267, rfl, (Sl.out h268 hA0 hK), hK.kp⟩
                  rintro ⟨s174, v176, v178, A183⟩ w180 ⟨rfl, h177, h179, hH184, hk181⟩ a ha182
                  rw [Lp.andThen_fin] at ho99
                  replace hK := Tr.trans hK hk181
                  replace hr17 := Tr.trans hr17 hk181
                  replace hr46 := Tr.trans hr46 hk181
                  replace hr86 := Tr.trans hr86 hk181
                  replace hr101 := Tr.trans hr101 hk181
                  replace hB := Nat.le_trans hB hk181.ex.size
                  replace hA := hk181.new
                  replace hH : Hp w.heap.size A183 w180 (obC b59 [.int .i64 s174.2.1.kind, .bool s174.2.1.not, v176] 38 :: obS (α := know_Part) 38 v30 s28.2.1.parts :: obC b10 [v30] 24 :: obC b1 [v178] 24 :: []) := hH184
                  obtain rfl := Option.some.inj ho99
                  exact ⟨((s174.1, s174.2.1, s174.2.2), v176, v178, A183), ha182.sub ⟨rfl, rfl, rfl, rfl, rfl, rfl, trivial⟩, ⟨rfl, h177, h179, hH, hr101⟩⟩
              rintro ⟨s100, v102, v104, A109⟩ w106 ⟨rfl, h103, h105, hH110, hk107⟩ a ha108
              rw [Lp.andThen_fin] at ho84
              replace hK := Tr.trans hK hk107
              replace hr17 := Tr.trans hr17 hk107
              replace hr46 := Tr.trans hr46 hk107
              replace hr86 := Tr.trans hr86 hk107
              replace hB := Nat.le_trans hB hk107.ex.size
              replace hA := hk107.new
              replace hH : Hp w.heap.size A109 w106 (obC b59 [.int .i64 s100.2.1.kind, .bool s100.2.1.not, v102] 38 :: obS (α := know_Part) 38 v30 s28.2.1.parts :: obC b10 [v30] 24 :: obC b1 [v104] 24 :: []) := hH110
              obtain rfl := Option.some.inj ho84
              exact ⟨((s100.1, s100.2.1, s100.2.2), v102, v104, A109), ha108.sub ⟨rfl, rfl, rfl, rfl, rfl, rfl, trivial⟩, ⟨rfl, h103, h105, hH, hr86⟩⟩
            rintro ⟨s85, v87, v89, A94⟩ w91 ⟨rfl, h88, h90, hH95, hk92⟩ a ha93
            rw [Lp.andThen_fin] at ho44
            replace hK := Tr.trans hK hk92
            replace hr17 := Tr.trans hr17 hk92
            replace hr46 := Tr.trans hr46 hk92
            replace hB := Nat.le_trans hB hk92.ex.size
            replace hA := hk92.new
            replace hH : Hp w.heap.size A94 w91 (obC b59 [.int .i64 s85.2.1.kind, .bool s85.2.1.not, v87] 38 :: obS (α := know_Part) 38 v30 s28.2.1.parts :: obC b10 [v30] 24 :: obC b1 [v89] 24 :: []) := hH95
            refine C_at (n := ⟨174, [], none⟩) (fun _ _ => rfl) ?_ ha93
            refine C_seq ?_
            refine C_seq ?_
            refine C_region ?_
            refine V_y (Y_move rfl) rfl rfl rfl ?_
            refine V_y (Y_move rfl) rfl rfl rfl ?_
            refine V_y (Y_lenStr rfl Try.underlying9 rfl) rfl rfl rfl ?_
            refine V_y (Y_lss rfl rfl) rfl rfl rfl ?_
            refine V_y (Y_move rfl) rfl rfl rfl ?_
            obtain ⟨s281, hs281, ho44⟩ := Option.bind_eq_some_iff.1 ho44
            refine V_cut 5 (fun _ : Unit => [(0, .string s), (2, .pointer (some ⟨b1, 0, none⟩)), (5, .pointer (some ⟨b10, 0, none⟩)), (6, .func (.func 13) #[] #[]), (7, .int .i64 s85.1), (8, .pointer (some ⟨b59, 0, none⟩)), (155, .bool s281)]) (fun _ w' => w91 = w') ?_ ?_
            · simp only [List.take, List.drop]
              rcases Bool.eq_false_or_eq_true (decide (s85.1 < (s.size : Int))) with hc280 | hc280
              · rw [if_pos hc280] at hs281
                refine V_ge rfl rfl rfl hc280 ?_
                refine V_y (Y_move rfl) rfl rfl rfl ?_
                refine V_ge rfl rfl rfl hc280 ?_
                refine V_y (Y_move rfl) rfl rfl rfl ?_
                refine V_ge rfl rfl rfl hc280 ?_
                obtain ⟨x282, hx282, hs281⟩ := Option.bind_eq_some_iff.1 hs281
                refine V_y (Y_indexS hx282 Try.underlying9 rfl rfl) rfl rfl rfl ?_
                refine V_ge rfl rfl rfl hc280 ?_
                refine V_y (Y_neq rfl rfl) rfl rfl rfl ?_
                refine V_y (Y_pick_te rfl hc280 rfl) rfl rfl rfl ?_
                obtain rfl := Option.some.inj hs281
                exact V_end fun a ha => ⟨(), ha.sub ⟨rfl, rfl, rfl, rfl, rfl, rfl, rfl, trivial⟩, rfl⟩
              · rw [if_neg (nt hc280)] at hs281
                refine V_gn rfl rfl rfl hc280 rfl rfl rfl ?_
                refine V_gn rfl rfl rfl hc280 rfl rfl rfl ?_
                refine V_gn rfl rfl rfl hc280 rfl rfl rfl ?_
                refine V_gn rfl rfl rfl hc280 rfl rfl rfl ?_
                refine V_y (Y_pick_fe rfl hc280 rfl) rfl rfl rfl ?_
                obtain rfl := Option.some.inj hs281
                exact V_end fun a ha => ⟨(), ha.sub ⟨rfl, rfl, rfl, rfl, rfl, rfl, rfl, trivial⟩, rfl⟩
            simp only [List.take, List.drop]
            rintro _ _ rfl
            refine V_to (fun _ _ => rfl) ?_
            refine C_cond rfl (fun hc283 => ?_) (fun hc283 => ?_)
            · rw [if_pos hc283] at ho44
              refine C_seq ?_
              refine C_region ?_
              refine V_y (Y_move rfl) rfl rfl rfl ?_
              refine V_y (Y_move rfl) rfl rfl rfl ?_
              obtain ⟨x284, hx284, ho44⟩ := Option.bind_eq_some_iff.1 ho44
              refine V_call Try.call13 rfl rfl rfl rfl (portref2_ReadQueryOf_1_c w91 hA s85.1 hx284) ?_
              rintro _ w287 ⟨v285, rfl, h286, hk288⟩
              have ht289 := Kp.tr hk288 hA hB
              replace hH := Hp.kp hH hk288
              replace h88 := Sl.tr h88 ht289
              replace h90 := Sl.tr h90 ht289
              replace hK := Tr.trans hK ht289
              replace hr17 := Tr.trans hr17 ht289
              replace hr46 := Tr.trans hr46 ht289
              replace hB := Nat.le_trans hB ht289.ex.size
              replace hA := ht289.new
              refine V_y (Y_extract rfl rfl) rfl rfl rfl ?_
              refine V_y (Y_extract rfl rfl) rfl rfl rfl ?_
              refine V_y (Y_extract rfl rfl) rfl rfl rfl ?_
              have h295 : (v285).oneCell' = true := by obtain ⟨_, _, e, _⟩ := Sl.form h286; rw [e]; rfl
              refine V_storeC (off := 0) (ds := [v285]) hH (i := 3) rfl Try.sizeOf24 rfl (Nat.le_of_ble_eq_true rfl) (by exact (List.forall_mem_cons.2 ⟨h295, (fun _ h => nomatch h)⟩)) rfl hB hA rfl rfl ?_
              intro w290 hH291 ht292
              replace h286 := Sl.tr h286 ht292
              replace h88 := Sl.tr h88 ht292
              replace h90 := Sl.tr h90 ht292
              replace hK := Tr.trans hK ht292
              replace hr17 := Tr.trans hr17 ht292
              replace hr46 := Tr.trans hr46 ht292
              replace hB := Nat.le_trans hB ht292.ex.size
              replace hA := ht292.new
              replace hH : Hp w.heap.size A94 w290 (obC b59 [.int .i64 s85.2.1.kind, .bool s85.2.1.not, v87] 38 :: obS (α := know_Part) 38 v30 s28.2.1.parts :: obC b10 [v30] 24 :: obC b1 [v285] 24 :: []) := hH291
              refine V_y (Y_assign rfl) rfl rfl rfl ?_
              refine V_y (Y_assign rfl) rfl rfl rfl ?_
              refine V_to (fun _ _ => rfl) ?_
              obtain rfl := Option.some.inj ho44
              rw [Lp.andThen_rt] at h37
              obtain rfl := Option.some.inj h37
              obtain rfl := (h38 : Lp.rt _ = _)
              rw [Lp.andThen_rt] at hm
              obtain rfl := Option.some.inj hm
              refine C_ret ?_
              try simp only [↓inBlock_ret, ↓then_ret]
              exact retQ rfl (Res.l3 Try.results6 (RL.cell rfl (loadVar_agg (Hp.part (off := 0) (n := 1) (ds := [v285]) hH (i := 3) rfl rfl) Try.isAgg24 Try.sizeOf24)) (RL.tmp rfl) (RL.tmp rfl)) ⟨v285, rfl, (Sl.out h286 hA0 hK), hK.kp⟩
            · rw [if_neg (nt hc283)] at ho44
              refine C_skip_to (fun _ _ => rfl) ?_
              refine C_region ?_
              refine V_y (Y_fieldAddrC (off2 := 0) Try.underlying24 rfl Try.sizeOf22 (by decide) rfl rfl) rfl rfl rfl ?_
              refine V_y (Y_load (Hp.cell (j := 0) hH (i := 2) rfl rfl) Try.isAgg22 rfl) rfl rfl rfl ?_
              refine V_y (Y_loadA (Hp.part (off := 0) (n := 3) (ds := [.int .i64 s85.2.1.kind, .bool s85.2.1.not, v87]) hH (i := 0) rfl rfl) Try.isAgg38 Try.sizeOf38 rfl) rfl rfl rfl ?_
              refine V_buildSlice (l := ([s85.2.1] : List know_Part)) (len := 1) Try.underlying22 Try.sizeOf38 Try.zeroValue38 rfl (by with_unfolding_all rfl) (by decide) (by decide) hA ⟨[.int .i64 s85.2.1.kind, .bool s85.2.1.not, v87], _, rfl, ⟨[.int .i64 s85.2.1.kind], _, rfl, rfl, ⟨[.bool s85.2.1.not], _, rfl, rfl, ⟨_, rfl, h88⟩⟩⟩, rfl⟩ rfl rfl ?_
              intro v296 w297 hk299 h298
              have ht300 := Kp.tr hk299 hA hB
              replace hH := Hp.kp hH hk299
              replace h88 := Sl.tr h88 ht300
              replace h90 := Sl.tr h90 ht300
              replace hK := Tr.trans hK ht300
              replace hr17 := Tr.trans hr17 ht300
              replace hr46 := Tr.trans hr46 ht300
              replace hB := Nat.le_trans hB ht300.ex.size
              replace hA := ht300.new
              obtain ⟨x301, hx301, ho44⟩ := Option.bind_eq_some_iff.1 ho44
              refine V_appendH (e := 38) (v := v30) (l := s28.2.1.parts) (ti := Try.t38) (bytes := 40) (lim := 3518437208883) hH (i := 1) rfl h298 hx301 Try.underlying22 Try_info38 rfl rfl rfl rfl (by decide) (by decide) (by decide) hB hA rfl rfl rfl ?_
              intro v302 w303 A304 hH305 ht306
              replace h88 := Sl.tr h88 ht306
              replace h298 := Sl.tr h298 ht306
              replace h90 := Sl.tr h90 ht306
              replace hK := Tr.trans hK ht306
              replace hr17 := Tr.trans hr17 ht306
              replace hr46 := Tr.trans hr46 ht306
              replace hB := Nat.le_trans hB ht306.ex.size
              replace hA := ht306.new
              replace hH : Hp w.heap.size A304 w303 (obC b59 [.int .i64 s85.2.1.kind, .bool s85.2.1.not, v87] 38 :: obS (α := know_Part) 38 v302 x301 :: obC b10 [v30] 24 :: obC b1 [v89] 24 :: []) := hH305
              refine V_y (Y_fieldAddrC (off2 := 0) Try.underlying24 rfl Try.sizeOf22 (by decide) rfl rfl) rfl rfl rfl ?_
              have h312 : (v302).oneCell' = true := by obtain ⟨_, _, e, _⟩ := Hp.form (α := know_Part) (e := 38) (v := v302) (l := x301) hH (i := 1) rfl; rw [e]; rfl
              refine V_storeC (off := 0) (ds := [v302]) hH (i := 2) rfl Try.sizeOf22 (by rw [← Array.length_toList, Value.cells_one h312]; rfl) (Nat.le_of_ble_eq_true rfl) (by intro u hu; rw [Value.cells_one h312] at hu; simp at hu; subst hu; assumption) (by rw [Value.cells_one h312]; rfl) hB hA rfl rfl ?_
              intro w307 hH308 ht309
              replace h88 := Sl.tr h88 ht309
              replace h298 := Sl.tr h298 ht309
              replace h90 := Sl.tr h90 ht309
              replace hK := Tr.trans hK ht309
              replace hr17 := Tr.trans hr17 ht309
              replace hr46 := Tr.trans hr46 ht309
              replace hB := Nat.le_trans hB ht309.ex.size
              replace hA := ht309.new
              replace hH : Hp w.heap.size A304 w307 (obC b59 [.int .i64 s85.2.1.kind, .bool s85.2.1.not, v87] 38 :: obS (α := know_Part) 38 v302 x301 :: obC b10 [v302] 24 :: obC b1 [v89] 24 :: []) := hH308
              obtain rfl := Option.some.inj ho44
              refine V_end (fun a ha313 => ?_)
              replace hH : Hp w.heap.size A304 w307 (obC b1 [v89] 24 :: obC b59 [.int .i64 s85.2.1.kind, .bool s85.2.1.not, v87] 38 :: obS (α := know_Part) 38 v302 x301 :: obC b10 [v302] 24 :: []) := Hp.front hH (i := 3) rfl
              replace hH : Hp w.heap.size A304 w307 (obC b10 [v302] 24 :: obC b1 [v89] 24 :: obC b59 [.int .i64 s85.2.1.kind, .bool s85.2.1.not, v87] 38 :: obS (α := know_Part) 38 v302 x301 :: []) := Hp.front hH (i := 3) rfl
              replace hH : Hp w.heap.size A304 w307 (obS (α := know_Part) 38 v302 x301 :: obC b10 [v302] 24 :: obC b1 [v89] 24 :: obC b59 [.int .i64 s85.2.1.kind, .bool s85.2.1.not, v87] 38 :: []) := Hp.front hH (i := 3) rfl
              replace hH : Hp w.heap.size A304 w307 (obS (α := know_Part) 38 v302 x301 :: obC b10 [v302] 24 :: obC b1 [v89] 24 :: []) := Hp.drop hH (i := 3) rfl
              exact ⟨((s85.1, (⟨x301⟩ : know_Query), s85.2.2), v302, v89, A304), ha313.sub ⟨rfl, rfl, rfl, rfl, rfl, trivial⟩, ⟨rfl, h90, hH, hr46⟩⟩
        rintro ⟨s45, v47, v49, A54⟩ w51 ⟨rfl, h50, hH55, hk52⟩ a ha53
        rw [Lp.andThen_fin] at h37
        replace hK := Tr.trans hK hk52
        replace hr17 := Tr.trans hr17 hk52
        replace hB := Nat.le_trans hB hk52.ex.size
        replace hA := hk52.new
        replace hH : Hp w.heap.size A54 w51 (obS (α := know_Part) 38 v47 s45.2.1.parts :: obC b10 [v47] 24 :: obC b1 [v49] 24 :: []) := hH55
        obtain rfl := Option.some.inj h37
        exact ⟨(s45.1, s45.2.1, s45.2.2), h38, ⟨(v47, v49, A54), ha53.sub ⟨rfl, rfl, rfl, rfl, rfl, trivial⟩, ⟨h50, hH, hr17⟩⟩⟩
      · rw [if_neg (nt hc43)] at h37
        obtain rfl := Option.some.inj h37
        refine C_exit (fun a ha315 => ?_)
        exact ⟨((s28.1, s28.2.1, s28.2.2), v30, v32, A34), ha315.sub ⟨rfl, rfl, trivial⟩, ⟨h38.symm, h33, hH, hr17⟩⟩
    rintro ⟨s16, v22, v24, A26⟩ w19 ⟨rfl, h25, hH27, hk20⟩ a ha21
    rw [Lp.andThen_fin] at hm
    replace hK := Tr.trans hK hk20
    replace hB := Nat.le_trans hB hk20.ex.size
    replace hA := hk20.new
    replace hH : Hp w.heap.size A26 w19 (obS (α := know_Part) 38 v22 s16.2.1.parts :: obC b10 [v22] 24 :: obC b1 [v24] 24 :: []) := hH27
    refine C_at (n := ⟨174, [], none⟩) (fun _ _ => rfl) ?_ ha21
    refine C_seq ?_
    refine C_seq ?_
    refine C_region ?_
    refine V_y (Y_fieldAddrC (off2 := 0) Try.underlying24 rfl Try.sizeOf22 (by decide) rfl rfl) rfl rfl rfl ?_
    refine V_y (Y_load (Hp.cell (j := 0) hH (i := 1) rfl rfl) Try.isAgg22 rfl) rfl rfl rfl ?_
    refine V_y (Y_lenSl (Hp.any (α := know_Part) (e := 38) (v := v22) (l := s16.2.1.parts) hH (i := 0) rfl) rfl Try.underlying22 rfl) rfl rfl rfl ?_
    refine V_y (Y_gtr rfl rfl) rfl rfl rfl ?_
    refine V_to (fun _ _ => rfl) ?_
    refine C_cond rfl (fun hc317 => ?_) (fun hc317 => ?_)
    · rw [if_pos hc317] at hm
      refine C_seq ?_
      refine C_region ?_
      refine V_y (Y_build Try.underlying24 Try.zeroValue24 (Try_places24 _ Try.underlying24) rfl (by with_unfolding_all rfl)) rfl rfl rfl ?_
      refine V_storeC (off := 0) (ds := [.slice none 0 0]) hH (i := 2) rfl Try.sizeOf24 rfl (Nat.le_of_ble_eq_true rfl) (by exact (List.forall_mem_cons.2 ⟨rfl, (fun _ h => nomatch h)⟩)) rfl hB hA rfl rfl ?_
      intro w318 hH319 ht320
      replace h25 := Sl.tr h25 ht320
      replace hK := Tr.trans hK ht320
      replace hB := Nat.le_trans hB ht320.ex.size
      replace hA := ht320.new
      replace hH : Hp w.heap.size A26 w318 (obS (α := know_Part) 38 v22 s16.2.1.parts :: obC b10 [v22] 24 :: obC b1 [.slice none 0 0] 24 :: []) := hH319
      refine V_y (Y_assign rfl) rfl rfl rfl ?_
      refine V_y (Y_assign rfl) rfl rfl rfl ?_
      refine V_to (fun _ _ => rfl) ?_
      obtain rfl := Option.some.inj hm
      refine C_ret ?_
      try simp only [↓inBlock_ret, ↓then_ret]
      exact retQ rfl (Res.l3 Try.results6 (RL.cell rfl (loadVar_agg (Hp.part (off := 0) (n := 1) (ds := [.slice none 0 0]) hH (i := 2) rfl rfl) Try.isAgg24 Try.sizeOf24)) (RL.tmp rfl) (RL.tmp rfl)) ⟨.slice none 0 0, rfl, Sl.nil, hK.kp⟩
    · rw [if_neg (nt hc317)] at hm
      refine C_skip_to (fun _ _ => rfl) ?_
      refine C_seq ?_
      refine C_region ?_
      refine V_y (Y_loadA (Hp.part (off := 0) (n := 1) (ds := [v22]) hH (i := 1) rfl rfl) Try.isAgg24 Try.sizeOf24 rfl) rfl rfl rfl ?_
      obtain ⟨A321, ht322, h323, hH324⟩ := Hp.freeze (α := know_Part) (v := v22) (l := s16.2.1.parts) hH (i := 0) rfl hA
      replace h25 := Sl.tr h25 ht322
      replace hK := Tr.trans hK ht322
      replace hB := Nat.le_trans hB ht322.ex.size
      replace hA := ht322.new
      replace hH : Hp w.heap.size A321 w19 (obC b10 [v22] 24 :: obC b1 [v24] 24 :: []) := hH324
      have h331 : (v22).oneCell' = true := by obtain ⟨_, _, e, _⟩ := Sl.form h323; rw [e]; rfl
      refine V_storeC (off := 0) (ds := [v22]) hH (i := 1) rfl Try.sizeOf24 rfl (Nat.le_of_ble_eq_true rfl) (by exact (List.forall_mem_cons.2 ⟨h331, (fun _ h => nomatch h)⟩)) rfl hB hA rfl rfl ?_
      intro w326 hH327 ht328
      replace h323 := Sl.tr h323 ht328
      replace h25 := Sl.tr h25 ht328
      replace hK := Tr.trans hK ht328
      replace hB := Nat.le_trans hB ht328.ex.size
      replace hA := ht328.new
      replace hH : Hp w.heap.size A321 w326 (obC b10 [v22] 24 :: obC b1 [v22] 24 :: []) := hH327
      refine V_y (Y_assign rfl) rfl rfl rfl ?_
      refine V_y (Y_assign rfl) rfl rfl rfl ?_
      refine V_to (fun _ _ => rfl) ?_
      obtain rfl := Option.some.inj hm
      refine C_ret ?_
      try simp only [↓inBlock_ret, ↓then_ret]
      exact retQ rfl (Res.l3 Try.results6 (RL.cell rfl (loadVar_agg (Hp.part (off := 0) (n := 1) (ds := [v22]) hH (i := 1) rfl rfl) Try.isAgg24 Try.sizeOf24)) (RL.tmp rfl) (RL.tmp rfl)) ⟨v22, rfl, (Sl.out h323 hA0 hK), hK.kp⟩

set_option maxRecDepth 4000 in
set_option maxHeartbeats 4000000 in
theorem slices_EqualFunc_Lknow_Part_Lknow_Part_know_Part_know_Part_c (w : World) {A : Nat → Prop} (hA : ∀ b, w.heap.size ≤ b → A b) (s1 : (List know_Part)) (v_s1 : Value) (h_s1 : Sl A w v_s1 s1) (s2 : (List know_Part)) (v_s2 : Value) (h_s2 : Sl A w v_s2 s2) (eq : know_Part → know_Part → Option Bool) (eq_f : FuncId) (eq_a eq_c : Array Value) (eq_call : ∀ (args : Array Value) (w : World), (callFunc eq_f args).run Try.prog w = .ok (.enter eq_f args) w) (eq_spec : ∀ (w1 : World) (A1 : Nat → Prop), Tr w.heap.size A w A1 w1 → (∀ b, w1.heap.size ≤ b → A1 b) → ∀ (y0 : know_Part) (v1 : Value) (h2 : Sl A1 w1 v1 y0.words) (y1 : know_Part) (v3 : Value) (h4 : Sl A1 w1 v3 y1.words) (r : Bool), eq y0 y1 = some r → Ret Try.prog eq_f (eq_a ++ #[.agg #[.int .i64 y0.kind, .bool y0.not, v1], .agg #[.int .i64 y1.kind, .bool y1.not, v3]] ++ eq_c) w1 fun v w' => v = .bool r ∧ Kp w1 w') {r : Bool} (hm : slices_EqualFunc_Lknow_Part_Lknow_Part_know_Part_know_Part s1 s2 eq = some r) : Ret Try.prog 33 #[v_s1, v_s2, .func (.func eq_f) eq_a eq_c] w fun v w' => v = .bool r ∧ Kp w w' := by
  unfold slices_EqualFunc_Lknow_Part_Lknow_Part_know_Part_know_Part at hm
  refine enter Try.func33 rfl Try.ntmps33 rfl ?_
  have hA0 := hA
  have hB := Nat.le_refl w.heap.size
  have hK : Tr w.heap.size A w A w := Tr.refl hA
  have hH : Hp w.heap.size A w [] := Hp.nil
  refine C_seq ?_
  refine C_region ?_
  refine V_y (Y_assign rfl) rfl rfl rfl ?_
  refine V_to (fun _ _ => rfl) ?_
  refine C_seq ?_
  refine C_seq ?_
  refine C_region ?_
  refine V_y (Y_move rfl) rfl rfl rfl ?_
  refine V_y (Y_lenSl h_s1 rfl Try.underlying22 rfl) rfl rfl rfl ?_
  refine V_y (Y_move rfl) rfl rfl rfl ?_
  refine V_y (Y_lenSl h_s2 rfl Try.underlying22 rfl) rfl rfl rfl ?_
  refine V_y (Y_neq rfl rfl) rfl rfl rfl ?_
  refine V_to (fun _ _ => rfl) ?_
  refine C_cond rfl (fun hc5 => ?_) (fun hc5 => ?_)
  · rw [if_pos hc5] at hm
    refine C_seq ?_
    refine C_region ?_
    refine V_y (Y_assign rfl) rfl rfl rfl ?_
    refine V_to (fun _ _ => rfl) ?_
    obtain rfl := Option.some.inj hm
    refine C_ret ?_
    try simp only [↓inBlock_ret, ↓then_ret]
    exact retQ rfl (Res.one Try.results33 rfl) ⟨rfl, hK.kp⟩
  · rw [if_neg (nt hc5)] at hm
    refine C_skip_to (fun _ _ => rfl) ?_
    refine C_seq ?_
    refine C_seq ?_
    refine C_region ?_
    refine V_y (Y_move rfl) rfl rfl rfl ?_
    refine V_y (Y_lenSl h_s1 rfl Try.underlying22 rfl) rfl rfl rfl ?_
    refine V_y (Y_move rfl) rfl rfl rfl ?_
    refine V_to (fun _ _ => rfl) ?_
    have hn27 := Sl.le h_s1
    obtain ⟨o6, ho6, hm⟩ := Option.bind_eq_some_iff.1 hm
    refine C_cutG (ι := (Unit × (Nat → Prop))) (fun ⟨s7, A13⟩ => []) (fun ⟨s7, A13⟩ => fun w' => o6 = .fin s7 ∧ Hp w.heap.size A13 w' ([]) ∧ Tr w.heap.size A w A13 w') ?_ ?_
    · refine C_block ?_
      refine C_range ho6 (fun k9 _ a w' => ∃ i : (Nat → Prop), Has ⟨32, [], none⟩ a ([(1, v_s2), (2, .func (.func eq_f) eq_a eq_c), (15, v_s1), (16, .int .i64 (s1.length : Int)), (17, .int .i64 (k9 : Int))]) ∧ Hp w.heap.size i w' ([]) ∧ Tr w.heap.size A w i w') (fun a ha => ⟨A, ha.sub ⟨rfl, rfl, rfl, rfl, rfl, trivial⟩, ⟨hH, Tr.refl hA⟩⟩) ?_
      rintro K k9 _ a w17 ⟨A18, ha78, hH19, hr8⟩ hle23 K26 h25
      refine C_of ?_ ha78
      replace h_s2 := Sl.tr h_s2 hr8
      replace h_s1 := Sl.tr h_s1 hr8
      replace hK := Tr.trans hK hr8
      replace hB := Nat.le_trans hB hr8.ex.size
      replace hA := hr8.new
      replace hH : Hp w.heap.size A18 w17 ([]) := hH19
      refine C_seq (C_region (V_y (Y_lss rfl rfl) rfl rfl rfl (V_to (fun _ _ => rfl) ?_)))
      refine C_seq ?_
      refine C_cond rfl (fun hc28 => ?_) (fun hc28 => ?_)
      · have hlt24 := lt_of_dec hc28
        obtain ⟨x20, h21, h22⟩ := K26 hlt24
        refine C_skip_to (fun _ _ => rfl) ?_
        refine C_seq ?_
        refine C_block ?_
        refine C_seq ?_
        refine C_region ?_
        refine V_y (Y_move rfl) rfl rfl rfl ?_
        obtain ⟨x29, hx29, h21⟩ := Option.bind_eq_some_iff.1 h21
        refine V_indexAddr h_s1 hx29 Try.underlying22 Try.sizeOf38 rfl rfl rfl ?_
        intro b30 o31 h32
        obtain ⟨v33, h35, h34⟩ := El_know_Part h32
        refine V_y (Y_loadA h35 Try.isAgg38 Try.sizeOf38 rfl) rfl rfl rfl ?_
        refine V_alloc Try.zeroValue38 rfl ?_
        intro b36 w37 h38
        refine V_y (Y_assign rfl) rfl rfl rfl ?_
        have h43 : (v33).oneCell' = true := by obtain ⟨_, _, e, _⟩ := Sl.form h34; rw [e]; rfl
        refine V_storeNew h38 Try.sizeOf38 rfl rfl rfl rfl (by exact (List.forall_mem_cons.2 ⟨rfl, (List.forall_mem_cons.2 ⟨rfl, (List.forall_mem_cons.2 ⟨h43, (fun _ h => nomatch h)⟩)⟩)⟩)) ?_
        intro w39 h40
        have hk45 := h40.kp
        have h44 : El (α := know_Part) A18 w39 b36 0 x29 := h40.el hA ⟨[.int .i64 x29.kind], _, rfl, rfl, ⟨[.bool x29.not], _, rfl, rfl, ⟨_, rfl, h34⟩⟩⟩
        have ht46 := Kp.tr hk45 hA hB
        replace hH := Hp.kp hH hk45
        replace h_s2 := Sl.tr h_s2 ht46
        replace h_s1 := Sl.tr h_s1 ht46
        replace h32 := El.tr h32 ht46
        replace h34 := Sl.tr h34 ht46
        replace hK := Tr.trans hK ht46
        replace hr8 := Tr.trans hr8 ht46
        replace hB := Nat.le_trans hB ht46.ex.size
        replace hA := ht46.new
        refine V_to (fun _ _ => rfl) ?_
        refine C_seq ?_
        refine C_region ?_
        refine V_y (Y_move rfl) rfl rfl rfl ?_
        refine V_y (Y_move rfl) rfl rfl rfl ?_
        obtain ⟨x47, hx47, h21⟩ := Option.bind_eq_some_iff.1 h21
        refine V_indexAddr h_s2 hx47 Try.underlying22 Try.sizeOf38 rfl rfl rfl ?_
        intro b48 o49 h50
        obtain ⟨v51, h53, h52⟩ := El_know_Part h50
        refine V_y (Y_loadA h53 Try.isAgg38 Try.sizeOf38 rfl) rfl rfl rfl ?_
        refine V_alloc Try.zeroValue38 rfl ?_
        intro b54 w55 h56
        have h61 : (v51).oneCell' = true := by obtain ⟨_, _, e, _⟩ := Sl.form h52; rw [e]; rfl
        refine V_storeNew h56 Try.sizeOf38 rfl rfl rfl rfl (by exact (List.forall_mem_cons.2 ⟨rfl, (List.forall_mem_cons.2 ⟨rfl, (List.forall_mem_cons.2 ⟨h61, (fun _ h => nomatch h)⟩)⟩)⟩)) ?_
        intro w57 h58
        have hk63 := h58.kp
        have h62 : El (α := know_Part) A18 w57 b54 0 x47 := h58.el hA ⟨[.int .i64 x47.kind], _, rfl, rfl, ⟨[.bool x47.not], _, rfl, rfl, ⟨_, rfl, h52⟩⟩⟩
        have ht64 := Kp.tr hk63 hA hB
        replace hH := Hp.kp hH hk63
        replace h_s2 := Sl.tr h_s2 ht64
        replace h_s1 := Sl.tr h_s1 ht64
        replace h44 := El.tr h44 ht64
        replace h50 := El.tr h50 ht64
        replace h52 := Sl.tr h52 ht64
        replace hK := Tr.trans hK ht64
        replace hr8 := Tr.trans hr8 ht64
        replace hB := Nat.le_trans hB ht64.ex.size
        replace hA := ht64.new
        refine V_to (fun _ _ => rfl) ?_
        refine C_seq ?_
        refine C_region ?_
        refine V_y (Y_move rfl) rfl rfl rfl ?_
        obtain ⟨v65, h67, h66⟩ := El_know_Part h44
        refine V_y (Y_loadA h67 Try.isAgg38 Try.sizeOf38 rfl) rfl rfl rfl ?_
        obtain ⟨v68, h70, h69⟩ := El_know_Part h62
        refine V_y (Y_loadA h70 Try.isAgg38 Try.sizeOf38 rfl) rfl rfl rfl ?_
        obtain ⟨x71, hx71, h21⟩ := Option.bind_eq_some_iff.1 h21
        refine V_call eq_call rfl rfl rfl rfl (eq_spec w57 _ hK hA x29 v65 h66 x47 v68 h69 _ hx71) ?_
        rintro _ w72 ⟨rfl, hk73⟩
        have ht74 := Kp.tr hk73 hA hB
        replace hH := Hp.kp hH hk73
        replace h_s2 := Sl.tr h_s2 ht74
        replace h_s1 := Sl.tr h_s1 ht74
        replace h44 := El.tr h44 ht74
        replace h62 := El.tr h62 ht74
        replace h66 := Sl.tr h66 ht74
        replace h69 := Sl.tr h69 ht74
        replace hK := Tr.trans hK ht74
        replace hr8 := Tr.trans hr8 ht74
        replace hB := Nat.le_trans hB ht74.ex.size
        replace hA := ht74.new
        refine V_y (Y_not rfl) rfl rfl rfl ?_
        refine V_to (fun _ _ => rfl) ?_
        refine C_cond rfl (fun hc75 => ?_) (fun hc75 => ?_)
        · rw [if_pos hc75] at h21
          refine C_seq ?_
          refine C_region ?_
          refine V_y (Y_assign rfl) rfl rfl rfl ?_
          refine V_to (fun _ _ => rfl) ?_
          obtain rfl := Option.some.inj h21
          obtain rfl := (h22 : Lp.rt _ = _)
          rw [Lp.andThen_rt] at hm
          obtain rfl := Option.some.inj hm
          refine C_ret ?_
          try simp only [↓inBlock_ret, ↓then_ret]
          exact retQ rfl (Res.one Try.results33 rfl) ⟨rfl, hK.kp⟩
        · rw [if_neg (nt hc75)] at h21
          refine C_skip_to (fun _ _ => rfl) ?_
          refine C_region ?_
          refine V_y (Y_addI rfl rfl) rfl rfl rfl ?_
          refine V_y (Y_move rfl) rfl rfl rfl ?_
          obtain rfl := Option.some.inj h21
          refine V_end (fun a ha76 => ?_)
          exact ⟨(), hlt24, h22, ⟨A18, ha76.sub ⟨rfl, rfl, rfl, rfl, (congrArg (fun z => some (Value.int .i64 z)) (w64_succ hlt24 hn27)), trivial⟩, ⟨hH, hr8⟩⟩⟩
      · refine C_exit (fun a ha77 => ?_)
        exact ⟨((), A18), ha77.sub trivial, ⟨(h25 (eq_of_dec hle23 hc28)).symm, hH, hr8⟩⟩
    rintro ⟨s7, A13⟩ w10 ⟨rfl, hH14, hk11⟩ a ha12
    rw [Lp.andThen_fin] at hm
    replace hK := Tr.trans hK hk11
    replace hB := Nat.le_trans hB hk11.ex.size
    replace hA := hk11.new
    replace hH : Hp w.heap.size A13 w10 ([]) := hH14
    refine C_at (n := ⟨32, [], none⟩) (fun _ _ => rfl) ?_ ha12
    refine C_seq ?_
    refine C_region ?_
    refine V_y (Y_assign rfl) rfl rfl rfl ?_
    refine V_to (fun _ _ => rfl) ?_
    obtain rfl := Option.some.inj hm
    refine C_ret ?_
    try simp only [↓inBlock_ret, ↓then_ret]
    exact retQ rfl (Res.one Try.results33 rfl) ⟨rfl, hK.kp⟩

set_option maxRecDepth 4000 in
set_option maxHeartbeats 4000000 in
theorem slices_Equal_Lstring_string_c (w : World) {A : Nat → Prop} (hA : ∀ b, w.heap.size ≤ b → A b) (s1 : (List ByteArray)) (v_s1 : Value) (h_s1 : Sl A w v_s1 s1) (s2 : (List ByteArray)) (v_s2 : Value) (h_s2 : Sl A w v_s2 s2) {r : Bool} (hm : slices_Equal_Lstring_string s1 s2 = some r) : Ret Try.prog 27 #[v_s1, v_s2] w fun v w' => v = .bool r ∧ Kp w w' := by
  unfold slices_Equal_Lstring_string at hm
  refine enter Try.func27 rfl Try.ntmps27 rfl ?_
  have hA0 := hA
  have hB := Nat.le_refl w.heap.size
  have hK : Tr w.heap.size A w A w := Tr.refl hA
  have hH : Hp w.heap.size A w [] := Hp.nil
  refine C_seq ?_
  refine C_region ?_
  refine V_y (Y_assign rfl) rfl rfl rfl ?_
  refine V_to (fun _ _ => rfl) ?_
  refine C_seq ?_
  refine C_seq ?_
  refine C_region ?_
  refine V_y (Y_move rfl) rfl rfl rfl ?_
  refine V_y (Y_lenSl h_s1 rfl Try.underlying36 rfl) rfl rfl rfl ?_
  refine V_y (Y_move rfl) rfl rfl rfl ?_
  refine V_y (Y_lenSl h_s2 rfl Try.underlying36 rfl) rfl rfl rfl ?_
  refine V_y (Y_neq rfl rfl) rfl rfl rfl ?_
  refine V_to (fun _ _ => rfl) ?_
  refine C_cond rfl (fun hc5 => ?_) (fun hc5 => ?_)
  · rw [if_pos hc5] at hm
    refine C_seq ?_
    refine C_region ?_
    refine V_y (Y_assign rfl) rfl rfl rfl ?_
    refine V_to (fun _ _ => rfl) ?_
    obtain rfl := Option.some.inj hm
    refine C_ret ?_
    try simp only [↓inBlock_ret, ↓then_ret]
    exact retQ rfl (Res.one Try.results27 rfl) ⟨rfl, hK.kp⟩
  · rw [if_neg (nt hc5)] at hm
    refine C_skip_to (fun _ _ => rfl) ?_
    refine C_seq ?_
    refine C_seq ?_
    refine C_region ?_
    refine V_y (Y_move rfl) rfl rfl rfl ?_
    refine V_y (Y_lenSl h_s1 rfl Try.underlying36 rfl) rfl rfl rfl ?_
    refine V_y (Y_move rfl) rfl rfl rfl ?_
    refine V_to (fun _ _ => rfl) ?_
    have hn27 := Sl.le h_s1
    obtain ⟨o6, ho6, hm⟩ := Option.bind_eq_some_iff.1 hm
    refine C_cutG (ι := (Unit × (Nat → Prop))) (fun ⟨s7, A13⟩ => []) (fun ⟨s7, A13⟩ => fun w' => o6 = .fin s7 ∧ Hp w.heap.size A13 w' ([]) ∧ Tr w.heap.size A w A13 w') ?_ ?_
    · refine C_block ?_
      refine C_range ho6 (fun k9 _ a w' => ∃ i : (Nat → Prop), Has ⟨26, [], none⟩ a ([(0, v_s1), (1, v_s2), (12, .int .i64 (s1.length : Int)), (13, .int .i64 (k9 : Int))]) ∧ Hp w.heap.size i w' ([]) ∧ Tr w.heap.size A w i w') (fun a ha => ⟨A, ha.sub ⟨rfl, rfl, rfl, rfl, trivial⟩, ⟨hH, Tr.refl hA⟩⟩) ?_
      rintro K k9 _ a w17 ⟨A18, ha43, hH19, hr8⟩ hle23 K26 h25
      refine C_of ?_ ha43
      replace h_s1 := Sl.tr h_s1 hr8
      replace h_s2 := Sl.tr h_s2 hr8
      replace hK := Tr.trans hK hr8
      replace hB := Nat.le_trans hB hr8.ex.size
      replace hA := hr8.new
      replace hH : Hp w.heap.size A18 w17 ([]) := hH19
      refine C_seq (C_region (V_y (Y_lss rfl rfl) rfl rfl rfl (V_to (fun _ _ => rfl) ?_)))
      refine C_seq ?_
      refine C_cond rfl (fun hc28 => ?_) (fun hc28 => ?_)
      · have hlt24 := lt_of_dec hc28
        obtain ⟨x20, h21, h22⟩ := K26 hlt24
        refine C_skip_to (fun _ _ => rfl) ?_
        refine C_seq ?_
        refine C_block ?_
        refine C_seq ?_
        refine C_region ?_
        refine V_y (Y_move rfl) rfl rfl rfl ?_
        refine V_y (Y_assign rfl) rfl rfl rfl ?_
        refine V_to (fun _ _ => rfl) ?_
        refine C_seq ?_
        refine C_region_q Try_mixed (by kernel_rfl) ?_
        refine VQ_y (fun w' hw' => Y_move rfl) rfl rfl rfl ?_
        refine VQ_y (fun w' hw' => Y_move rfl) rfl rfl rfl ?_
        obtain ⟨x29, hx29, h21⟩ := Option.bind_eq_some_iff.1 h21
        refine VQ_indexAddr h_s1 hx29 Try.underlying36 Try.sizeOf9 rfl rfl rfl ?_
        intro b30 o31 h32
        refine VQ_y (fun w' hw' => Y_load (El.str (El.kp h32 hw')) Try.isAgg9 rfl) rfl rfl rfl ?_
        refine VQ_y (fun w' hw' => Y_move rfl) rfl rfl rfl ?_
        refine VQ_y (fun w' hw' => Y_move rfl) rfl rfl rfl ?_
        obtain ⟨x33, hx33, h21⟩ := Option.bind_eq_some_iff.1 h21
        refine VQ_indexAddr h_s2 hx33 Try.underlying36 Try.sizeOf9 rfl rfl rfl ?_
        intro b34 o35 h36
        refine VQ_y (fun w' hw' => Y_load (El.str (El.kp h36 hw')) Try.isAgg9 rfl) rfl rfl rfl ?_
        refine VQ_y (fun w' hw' => Y_sneq rfl rfl) rfl rfl rfl ?_
        refine VQ_to (fun _ _ => rfl) (fun w37 hk38 => ?_)
        have ht39 := Kp.tr hk38 hA hB
        replace hH := Hp.kp hH hk38
        replace h_s1 := Sl.tr h_s1 ht39
        replace h_s2 := Sl.tr h_s2 ht39
        replace hK := Tr.trans hK ht39
        replace hr8 := Tr.trans hr8 ht39
        replace hB := Nat.le_trans hB ht39.ex.size
        replace hA := ht39.new
        refine C_cond rfl (fun hc40 => ?_) (fun hc40 => ?_)
        · rw [if_pos hc40] at h21
          refine C_seq ?_
          refine C_region ?_
          refine V_y (Y_assign rfl) rfl rfl rfl ?_
          refine V_to (fun _ _ => rfl) ?_
          obtain rfl := Option.some.inj h21
          obtain rfl := (h22 : Lp.rt _ = _)
          rw [Lp.andThen_rt] at hm
          obtain rfl := Option.some.inj hm
          refine C_ret ?_
          try simp only [↓inBlock_ret, ↓then_ret]
          exact retQ rfl (Res.one Try.results27 rfl) ⟨rfl, hK.kp⟩
        · rw [if_neg (nt hc40)] at h21
          refine C_skip_to (fun _ _ => rfl) ?_
          refine C_region ?_
          refine V_y (Y_addI rfl rfl) rfl rfl rfl ?_
          refine V_y (Y_move rfl) rfl rfl rfl ?_
          obtain rfl := Option.some.inj h21
          refine V_end (fun a ha41 => ?_)
          exact ⟨(), hlt24, h22, ⟨A18, ha41.sub ⟨rfl, rfl, rfl, (congrArg (fun z => some (Value.int .i64 z)) (w64_succ hlt24 hn27)), trivial⟩, ⟨hH, hr8⟩⟩⟩
      · refine C_exit (fun a ha42 => ?_)
        exact ⟨((), A18), ha42.sub trivial, ⟨(h25 (eq_of_dec hle23 hc28)).symm, hH, hr8⟩⟩
    rintro ⟨s7, A13⟩ w10 ⟨rfl, hH14, hk11⟩ a ha12
    rw [Lp.andThen_fin] at hm
    replace hK := Tr.trans hK hk11
    replace hB := Nat.le_trans hB hk11.ex.size
    replace hA := hk11.new
    replace hH : Hp w.heap.size A13 w10 ([]) := hH14
    refine C_at (n := ⟨26, [], none⟩) (fun _ _ => rfl) ?_ ha12
    refine C_seq ?_
    refine C_region ?_
    refine V_y (Y_assign rfl) rfl rfl rfl ?_
    refine V_to (fun _ _ => rfl) ?_
    obtain rfl := Option.some.inj hm
    refine C_ret ?_
    try simp only [↓inBlock_ret, ↓then_ret]
    exact retQ rfl (Res.one Try.results27 rfl) ⟨rfl, hK.kp⟩

set_option maxRecDepth 4000 in
set_option maxHeartbeats 4000000 in
theorem portref2_Alike_5_c (w : World) {A : Nat → Prop} (hA : ∀ b, w.heap.size ≤ b → A b) (a_ : know_Part) (v_a_ : Value) (h_a_ : Sl A w v_a_ a_.words) (b : know_Part) (v_b : Value) (h_b : Sl A w v_b b.words) {r : Bool} (hm : portref2_Alike_5 a_ b = some r) : Ret Try.prog 34 #[.agg #[.int .i64 a_.kind, .bool a_.not, v_a_], .agg #[.int .i64 b.kind, .bool b.not, v_b]] w fun v w' => v = .bool r ∧ Kp w w' := by
  unfold portref2_Alike_5 at hm
  refine enter Try.func34 rfl Try.ntmps34 rfl ?_
  have hA0 := hA
  have hB := Nat.le_refl w.heap.size
  have hK : Tr w.heap.size A w A w := Tr.refl hA
  have hH : Hp w.heap.size A w [] := Hp.nil
  refine C_seq ?_
  refine C_region ?_
  refine V_box rfl rfl ?_
  intro b5 w6 h7
  have hk9 := h7.kp
  have h8 : El (α := know_Part) A w6 b5 0 a_ := h7.el hA ⟨[.int .i64 a_.kind], _, rfl, rfl, ⟨[.bool a_.not], _, rfl, rfl, ⟨_, rfl, h_a_⟩⟩⟩
  have ht10 := Kp.tr hk9 hA hB
  replace hH := Hp.kp hH hk9
  replace h_a_ := Sl.tr h_a_ ht10
  replace h_b := Sl.tr h_b ht10
  replace hK := Tr.trans hK ht10
  replace hB := Nat.le_trans hB ht10.ex.size
  replace hA := ht10.new
  refine V_box rfl rfl ?_
  intro b11 w12 h13
  have hk15 := h13.kp
  have h14 : El (α := know_Part) A w12 b11 0 b := h13.el hA ⟨[.int .i64 b.kind], _, rfl, rfl, ⟨[.bool b.not], _, rfl, rfl, ⟨_, rfl, h_b⟩⟩⟩
  have ht16 := Kp.tr hk15 hA hB
  replace hH := Hp.kp hH hk15
  replace h_a_ := Sl.tr h_a_ ht16
  replace h_b := Sl.tr h_b ht16
  replace h8 := El.tr h8 ht16
  replace hK := Tr.trans hK ht16
  replace hB := Nat.le_trans hB ht16.ex.size
  replace hA := ht16.new
  refine V_y (Y_assign rfl) rfl rfl rfl ?_
  refine V_to (fun _ _ => rfl) ?_
  refine C_seq ?_
  obtain ⟨s18, ho17, hm⟩ := Option.bind_eq_some_iff.1 hm
  refine C_cutG (ι := (Nat → Prop)) (fun (A23 : (Nat → Prop)) => [(4, .bool s18)]) (fun (A23 : (Nat → Prop)) => fun w' => Hp w.heap.size A23 w' ([]) ∧ Tr w.heap.size A w12 A23 w') ?_ ?_
  · have hr19 : Tr w.heap.size A w12 A w12 := Tr.refl hA
    refine C_region ?_
    have h25 := El_know_Part_0 h8
    refine V_y (Y_fieldAddr Try.underlying38 rfl Try.sizeOf3 (by decide) rfl) rfl rfl rfl ?_
    refine V_y (Y_load (El.int h25) Try.isAgg3 rfl) rfl rfl rfl ?_
    have h26 := El_know_Part_0 h14
    refine V_y (Y_fieldAddr Try.underlying38 rfl Try.sizeOf3 (by decide) rfl) rfl rfl rfl ?_
    refine V_y (Y_load (El.int h26) Try.isAgg3 rfl) rfl rfl rfl ?_
    refine V_y (Y_eql rfl rfl) rfl rfl rfl ?_
    refine V_y (Y_move rfl) rfl rfl rfl ?_
    rcases Bool.eq_false_or_eq_true (a_.kind == b.kind) with hc27 | hc27
    · rw [if_pos hc27] at ho17
      refine V_ge rfl rfl rfl hc27 ?_
      have h28 := El_know_Part_1 h8
      refine V_y (Y_fieldAddr Try.underlying38 rfl Try.sizeOf4 (by decide) rfl) rfl rfl rfl ?_
      refine V_ge rfl rfl rfl hc27 ?_
      refine V_y (Y_load (El.bool h28) Try.isAgg4 rfl) rfl rfl rfl ?_
      refine V_ge rfl rfl rfl hc27 ?_
      have h29 := El_know_Part_1 h14
      refine V_y (Y_fieldAddr Try.underlying38 rfl Try.sizeOf4 (by decide) rfl) rfl rfl rfl ?_
      refine V_ge rfl rfl rfl hc27 ?_
      refine V_y (Y_load (El.bool h29) Try.isAgg4 rfl) rfl rfl rfl ?_
      refine V_ge rfl rfl rfl hc27 ?_
      refine V_y (Y_beql Try.underlying4 rfl rfl) rfl rfl rfl ?_
      refine V_y (Y_pick_te rfl hc27 rfl) rfl rfl rfl ?_
      refine V_y (Y_move rfl) rfl rfl rfl ?_
      rcases Bool.eq_false_or_eq_true (a_.not == b.not) with hc30 | hc30
      · rw [if_pos hc30] at ho17
        refine V_ge rfl rfl rfl hc30 ?_
        have h31 := El_know_Part_2 h8
        refine V_y (Y_fieldAddr Try.underlying38 rfl Try.sizeOf36 (by decide) rfl) rfl rfl rfl ?_
        refine V_ge rfl rfl rfl hc30 ?_
        obtain ⟨v32, h33, h34⟩ := El.list h31
        refine V_y (Y_load h33 Try.isAgg36 rfl) rfl rfl rfl ?_
        refine V_ge rfl rfl rfl hc30 ?_
        have h35 := El_know_Part_2 h14
        refine V_y (Y_fieldAddr Try.underlying38 rfl Try.sizeOf36 (by decide) rfl) rfl rfl rfl ?_
        refine V_ge rfl rfl rfl hc30 ?_
        obtain ⟨v36, h37, h38⟩ := El.list h35
        refine V_y (Y_load h37 Try.isAgg36 rfl) rfl rfl rfl ?_
        refine V_ge rfl rfl rfl hc30 ?_
        obtain ⟨x39, hx39, ho17⟩ := Option.bind_eq_some_iff.1 ho17
        refine V_call Try.call27 rfl rfl rfl rfl (slices_Equal_Lstring_string_c w12 hA a_.words v32 h34 b.words v36 h38 hx39) ?_
        rintro _ w40 ⟨rfl, hk41⟩
        have ht42 := Kp.tr hk41 hA hB
        replace hH := Hp.kp hH hk41
        replace h8 := El.tr h8 ht42
        replace h14 := El.tr h14 ht42
        replace h25 := El.tr h25 ht42
        replace h26 := El.tr h26 ht42
        replace h28 := El.tr h28 ht42
        replace h29 := El.tr h29 ht42
        replace h31 := El.tr h31 ht42
        replace h34 := Sl.tr h34 ht42
        replace h35 := El.tr h35 ht42
        replace h38 := Sl.tr h38 ht42
        replace hK := Tr.trans hK ht42
        replace hr19 := Tr.trans hr19 ht42
        replace hB := Nat.le_trans hB ht42.ex.size
        replace hA := ht42.new
        refine V_y (Y_pick_te rfl hc30 rfl) rfl rfl rfl ?_
        refine V_y (Y_assign rfl) rfl rfl rfl ?_
        obtain rfl := Option.some.inj ho17
        refine V_end (fun a ha43 => ?_)
        exact ⟨A, ha43.sub ⟨rfl, trivial⟩, ⟨hH, hr19⟩⟩
      · rw [if_neg (nt hc30)] at ho17
        refine V_gn rfl rfl rfl hc30 rfl rfl rfl ?_
        refine V_gn rfl rfl rfl hc30 rfl rfl rfl ?_
        refine V_gn rfl rfl rfl hc30 rfl rfl rfl ?_
        refine V_gn rfl rfl rfl hc30 rfl rfl rfl ?_
        refine V_gn rfl rfl rfl hc30 rfl rfl rfl ?_
        refine V_y (Y_pick_fe rfl hc30 rfl) rfl rfl rfl ?_
        refine V_y (Y_assign rfl) rfl rfl rfl ?_
        obtain rfl := Option.some.inj ho17
        refine V_end (fun a ha44 => ?_)
        exact ⟨A, ha44.sub ⟨rfl, trivial⟩, ⟨hH, hr19⟩⟩
    · rw [if_neg (nt hc27)] at ho17
      refine V_gn rfl rfl rfl hc27 rfl rfl rfl ?_
      refine V_gn rfl rfl rfl hc27 rfl rfl rfl ?_
      refine V_gn rfl rfl rfl hc27 rfl rfl rfl ?_
      refine V_gn rfl rfl rfl hc27 rfl rfl rfl ?_
      refine V_gn rfl rfl rfl hc27 rfl rfl rfl ?_
      refine V_y (Y_pick_fe rfl hc27 rfl) rfl rfl rfl ?_
      refine V_y (Y_move rfl) rfl rfl rfl ?_
      rcases Bool.eq_false_or_eq_true (false) with hc45 | hc45
      · rw [if_pos hc45] at ho17
        refine V_ge rfl rfl rfl hc45 ?_
        have h46 := El_know_Part_2 h8
        refine V_y (Y_fieldAddr Try.underlying38 rfl Try.sizeOf36 (by decide) rfl) rfl rfl rfl ?_
        refine V_ge rfl rfl rfl hc45 ?_
        obtain ⟨v47, h48, h49⟩ := El.list h46
        refine V_y (Y_load h48 Try.isAgg36 rfl) rfl rfl rfl ?_
        refine V_ge rfl rfl rfl hc45 ?_
        have h50 := El_know_Part_2 h14
        refine V_y (Y_fieldAddr Try.underlying38 rfl Try.sizeOf36 (by decide) rfl) rfl rfl rfl ?_
        refine V_ge rfl rfl rfl hc45 ?_
        obtain ⟨v51, h52, h53⟩ := El.list h50
        refine V_y (Y_load h52 Try.isAgg36 rfl) rfl rfl rfl ?_
        refine V_ge rfl rfl rfl hc45 ?_
        obtain ⟨x54, hx54, ho17⟩ := Option.bind_eq_some_iff.1 ho17
        refine V_call Try.call27 rfl rfl rfl rfl (slices_Equal_Lstring_string_c w12 hA a_.words v47 h49 b.words v51 h53 hx54) ?_
        rintro _ w55 ⟨rfl, hk56⟩
        have ht57 := Kp.tr hk56 hA hB
        replace hH := Hp.kp hH hk56
        replace h8 := El.tr h8 ht57
        replace h14 := El.tr h14 ht57
        replace h25 := El.tr h25 ht57
        replace h26 := El.tr h26 ht57
        replace h46 := El.tr h46 ht57
        replace h49 := Sl.tr h49 ht57
        replace h50 := El.tr h50 ht57
        replace h53 := Sl.tr h53 ht57
        replace hK := Tr.trans hK ht57
        replace hr19 := Tr.trans hr19 ht57
        replace hB := Nat.le_trans hB ht57.ex.size
        replace hA := ht57.new
        refine V_y (Y_pick_te rfl hc45 rfl) rfl rfl rfl ?_
        refine V_y (Y_assign rfl) rfl rfl rfl ?_
        obtain rfl := Option.some.inj ho17
        refine V_end (fun a ha58 => ?_)
        exact ⟨A, ha58.sub ⟨rfl, trivial⟩, ⟨hH, hr19⟩⟩
      · rw [if_neg (nt hc45)] at ho17
        refine V_gn rfl rfl rfl hc45 rfl rfl rfl ?_
        refine V_gn rfl rfl rfl hc45 rfl rfl rfl ?_
        refine V_gn rfl rfl rfl hc45 rfl rfl rfl ?_
        refine V_gn rfl rfl rfl hc45 rfl rfl rfl ?_
        refine V_gn rfl rfl rfl hc45 rfl rfl rfl ?_
        refine V_y (Y_pick_fe rfl hc45 rfl) rfl rfl rfl ?_
        refine V_y (Y_assign rfl) rfl rfl rfl ?_
        obtain rfl := Option.some.inj ho17
        refine V_end (fun a ha59 => ?_)
        exact ⟨A, ha59.sub ⟨rfl, trivial⟩, ⟨hH, hr19⟩⟩
  rintro A23 w20 ⟨hH24, hk21⟩ a ha22
  replace hK := Tr.trans hK hk21
  replace hB := Nat.le_trans hB hk21.ex.size
  replace hA := hk21.new
  replace hH : Hp w.heap.size A23 w20 ([]) := hH24
  refine C_at (n := ⟨24, [], none⟩) (fun _ _ => rfl) ?_ ha22
  obtain rfl := Option.some.inj hm
  refine C_ret ?_
  try simp only [↓inBlock_ret, ↓then_ret]
  exact retQ rfl (Res.one Try.results34 rfl) ⟨rfl, hK.kp⟩

set_option maxRecDepth 4000 in
set_option maxHeartbeats 4000000 in
theorem portref2_Alike_c (w : World) {A : Nat → Prop} (hA : ∀ b, w.heap.size ≤ b → A b) (a_ : know_Query) (v_a_ : Value) (h_a_ : Sl A w v_a_ a_.parts) (b : know_Query) (v_b : Value) (h_b : Sl A w v_b b.parts) {r : Bool} (hm : portref2_Alike a_ b = some r) : Ret Try.prog 7 #[.iface 24 (.agg #[v_a_]), .iface 24 (.agg #[v_b])] w fun v w' => v = .bool r ∧ Kp w w' := by
  unfold portref2_Alike at hm
  refine enter Try.func7 rfl Try.ntmps7 rfl ?_
  have hA0 := hA
  have hB := Nat.le_refl w.heap.size
  have hK : Tr w.heap.size A w A w := Tr.refl hA
  have hH : Hp w.heap.size A w [] := Hp.nil
  refine C_seq ?_
  refine C_region ?_
  refine V_y (Y_assign rfl) rfl rfl rfl ?_
  refine V_to (fun _ _ => rfl) ?_
  refine C_seq ?_
  refine C_seq ?_
  refine C_region ?_
  refine V_y (Y_move rfl) rfl rfl rfl ?_
  refine V_to (fun _ _ => rfl) ?_
  refine C_block ?_
  refine C_seq ?_
  refine C_region ?_
  refine V_y (Y_asNS Try.underlying52 Try.zeroValue52 (by decide) rfl) rfl rfl rfl ?_
  refine V_y (Y_extract rfl rfl) rfl rfl rfl ?_
  refine V_y (Y_extract rfl rfl) rfl rfl rfl ?_
  refine V_to (fun _ _ => rfl) ?_
  refine C_cond rfl (fun hc => ?_) (fun hc => ?_)
  · exact absurd hc (by decide)
  · refine C_seq ?_
    refine C_region ?_
    refine V_y (Y_asNL Try.underlying64 Try.zeroValue64 (by decide) rfl) rfl rfl rfl ?_
    refine V_y (Y_extract rfl rfl) rfl rfl rfl ?_
    refine V_y (Y_extract rfl rfl) rfl rfl rfl ?_
    refine V_to (fun _ _ => rfl) ?_
    refine C_cond rfl (fun hc => ?_) (fun hc => ?_)
    · exact absurd hc (by decide)
    · refine C_seq ?_
      refine C_region ?_
      refine V_y (Y_asNL Try.underlying74 Try.zeroValue74 (by decide) rfl) rfl rfl rfl ?_
      refine V_y (Y_extract rfl rfl) rfl rfl rfl ?_
      refine V_y (Y_extract rfl rfl) rfl rfl rfl ?_
      refine V_to (fun _ _ => rfl) ?_
      refine C_cond rfl (fun hc => ?_) (fun hc => ?_)
      · exact absurd hc (by decide)
      · refine C_seq ?_
        refine C_region ?_
        refine V_y (Y_asNS Try.underlying84 Try.zeroValue84 (by decide) rfl) rfl rfl rfl ?_
        refine V_y (Y_extract rfl rfl) rfl rfl rfl ?_
        refine V_y (Y_extract rfl rfl) rfl rfl rfl ?_
        refine V_to (fun _ _ => rfl) ?_
        refine C_cond rfl (fun hc => ?_) (fun hc => ?_)
        · exact absurd hc (by decide)
        · refine C_seq ?_
          refine C_region ?_
          refine V_y (Y_asIS Try.underlying24 rfl) rfl rfl rfl ?_
          refine V_y (Y_extract rfl rfl) rfl rfl rfl ?_
          refine V_y (Y_extract rfl rfl) rfl rfl rfl ?_
          refine V_to (fun _ _ => rfl) ?_
          refine C_cond rfl (fun hc => ?_) (fun hc => ?_)
          · refine C_seq ?_
            refine C_region ?_
            refine V_alloc Try.zeroValue24 rfl ?_
            intro b5 w6 h7
            have h13 : (v_a_).oneCell' = true := by obtain ⟨_, _, e, _⟩ := Sl.form h_a_; rw [e]; rfl
            refine V_storeNew h7 Try.sizeOf24 rfl rfl rfl rfl (by exact (List.forall_mem_cons.2 ⟨h13, (fun _ h => nomatch h)⟩)) ?_
            intro w9 h10
            have hk15 := h10.kp
            have h14 : El (α := know_Query) A w9 b5 0 a_ := h10.el hA ⟨_, rfl, h_a_⟩
            have ht16 := Kp.tr hk15 hA hB
            replace hH := Hp.kp hH hk15
            replace h_b := Sl.tr h_b ht16
            replace h_a_ := Sl.tr h_a_ ht16
            replace hK := Tr.trans hK ht16
            replace hB := Nat.le_trans hB ht16.ex.size
            replace hA := ht16.new
            refine V_to (fun _ _ => rfl) ?_
            refine C_seq ?_
            refine C_region ?_
            refine V_y (Y_move rfl) rfl rfl rfl ?_
            refine V_y (Y_asIS Try.underlying24 rfl) rfl rfl rfl ?_
            refine V_y (Y_move rfl) rfl rfl rfl ?_
            refine V_y (Y_extract rfl rfl) rfl rfl rfl ?_
            refine V_y (Y_extract rfl rfl) rfl rfl rfl ?_
            refine V_alloc Try.zeroValue24 rfl ?_
            intro b17 w18 h19
            have h24 : (v_b).oneCell' = true := by obtain ⟨_, _, e, _⟩ := Sl.form h_b; rw [e]; rfl
            refine V_storeNew h19 Try.sizeOf24 rfl rfl rfl rfl (by exact (List.forall_mem_cons.2 ⟨h24, (fun _ h => nomatch h)⟩)) ?_
            intro w20 h21
            have hk26 := h21.kp
            have h25 : El (α := know_Query) A w20 b17 0 b := h21.el hA ⟨_, rfl, h_b⟩
            have ht27 := Kp.tr hk26 hA hB
            replace hH := Hp.kp hH hk26
            replace h_b := Sl.tr h_b ht27
            replace h14 := El.tr h14 ht27
            replace hK := Tr.trans hK ht27
            replace hB := Nat.le_trans hB ht27.ex.size
            replace hA := ht27.new
            refine V_y (Y_assign rfl) rfl rfl rfl ?_
            refine V_to (fun _ _ => rfl) ?_
            refine C_seq ?_
            obtain ⟨s29, ho28, hm⟩ := Option.bind_eq_some_iff.1 hm
            refine C_cutG (ι := (Nat → Prop)) (fun (A34 : (Nat → Prop)) => [(4, .bool s29)]) (fun (A34 : (Nat → Prop)) => fun w' => Hp w.heap.size A34 w' ([]) ∧ Tr w.heap.size A w20 A34 w') ?_ ?_
            · have hr30 : Tr w.heap.size A w20 A w20 := Tr.refl hA
              refine C_region ?_
              refine V_y (Y_move rfl) rfl rfl rfl ?_
              refine V_y (Y_move rfl) rfl rfl rfl ?_
              rcases Bool.eq_false_or_eq_true (true) with hc36 | hc36
              · rw [if_pos hc36] at ho28
                refine V_ge rfl rfl rfl hc36 ?_
                have h37 := El_know_Query_0 h14
                refine V_y (Y_fieldAddr Try.underlying24 rfl Try.sizeOf22 (by decide) rfl) rfl rfl rfl ?_
                refine V_ge rfl rfl rfl hc36 ?_
                obtain ⟨v38, h39, h40⟩ := El.list h37
                refine V_y (Y_load h39 Try.isAgg22 rfl) rfl rfl rfl ?_
                refine V_ge rfl rfl rfl hc36 ?_
                have h41 := El_know_Query_0 h25
                refine V_y (Y_fieldAddr Try.underlying24 rfl Try.sizeOf22 (by decide) rfl) rfl rfl rfl ?_
                refine V_ge rfl rfl rfl hc36 ?_
                obtain ⟨v42, h43, h44⟩ := El.list h41
                refine V_y (Y_load h43 Try.isAgg22 rfl) rfl rfl rfl ?_
                refine V_ge rfl rfl rfl hc36 ?_
                obtain ⟨x47, hx47, ho28⟩ := Option.bind_eq_some_iff.1 ho28
                refine V_call Try.call33 rfl rfl rfl rfl (slices_EqualFunc_Lknow_Part_Lknow_Part_know_Part_know_Part_c w20 hA a_.parts v38 h40 b.parts v42 h44 (fun y60 y61 => portref2_Alike_5 y60 y61) 34 #[] #[] Try.call34 (fun w56 A57 ht58 h59 y48 v49 h50 y51 v52 h53 r54 h55 => (portref2_Alike_5_c w56 h59 y48 v49 h50 y51 v52 h53  h55).mono (fun _ _ h => ⟨h.1, h.2⟩)) hx47) ?_
                rintro _ w62 ⟨rfl, hk63⟩
                have ht64 := Kp.tr hk63 hA hB
                replace hH := Hp.kp hH hk63
                replace h14 := El.tr h14 ht64
                replace h25 := El.tr h25 ht64
                replace h37 := El.tr h37 ht64
                replace h40 := Sl.tr h40 ht64
                replace h41 := El.tr h41 ht64
                replace h44 := Sl.tr h44 ht64
                replace hK := Tr.trans hK ht64
                replace hr30 := Tr.trans hr30 ht64
                replace hB := Nat.le_trans hB ht64.ex.size
                replace hA := ht64.new
                refine V_y (Y_pick_te rfl hc36 rfl) rfl rfl rfl ?_
                refine V_y (Y_assign rfl) rfl rfl rfl ?_
                obtain rfl := Option.some.inj ho28
                refine V_end (fun a ha65 => ?_)
                exact ⟨A, ha65.sub ⟨rfl, trivial⟩, ⟨hH, hr30⟩⟩
              · rw [if_neg (nt hc36)] at ho28
                refine V_gn rfl rfl rfl hc36 rfl rfl rfl ?_
                refine V_gn rfl rfl rfl hc36 rfl rfl rfl ?_
                refine V_gn rfl rfl rfl hc36 rfl rfl rfl ?_
                refine V_gn rfl rfl rfl hc36 rfl rfl rfl ?_
                refine V_gn rfl rfl rfl hc36 rfl rfl rfl ?_
                refine V_y (Y_pick_fe rfl hc36 rfl) rfl rfl rfl ?_
                refine V_y (Y_assign rfl) rfl rfl rfl ?_
                obtain rfl := Option.some.inj ho28
                refine V_end (fun a ha66 => ?_)
                exact ⟨A, ha66.sub ⟨rfl, trivial⟩, ⟨hH, hr30⟩⟩
            rintro A34 w31 ⟨hH35, hk32⟩ a ha33
            replace hK := Tr.trans hK hk32
            replace hB := Nat.le_trans hB hk32.ex.size
            replace hA := hk32.new
            replace hH : Hp w.heap.size A34 w31 ([]) := hH35
            refine C_at (n := ⟨248, [], none⟩) (fun _ _ => rfl) ?_ ha33
            obtain rfl := Option.some.inj hm
            refine C_ret ?_
            try simp only [↓inBlock_ret, ↓then_ret]
            exact retQ rfl (Res.one Try.results7 rfl) ⟨rfl, hK.kp⟩
          · exact absurd hc (by decide)

set_option maxRecDepth 4000 in
set_option maxHeartbeats 4000000 in
theorem portlaw2_QueryReads_c (w : World) {A : Nat → Prop} (hA : ∀ b, w.heap.size ≤ b → A b) (s : ByteArray) {r : Bool} (hm : portlaw2_QueryReads s = some r) : Ret Try.prog 3 #[.string s] w fun v w' => v = .bool r ∧ Kp w w' := by
  unfold portlaw2_QueryReads at hm
  refine enter Try.func3 rfl Try.ntmps3 rfl ?_
  have hA0 := hA
  have hB := Nat.le_refl w.heap.size
  have hK : Tr w.heap.size A w A w := Tr.refl hA
  have hH : Hp w.heap.size A w [] := Hp.nil
  refine C_seq ?_
  refine C_region ?_
  refine V_y (Y_assign rfl) rfl rfl rfl ?_
  refine V_to (fun _ _ => rfl) ?_
  refine C_seq ?_
  refine C_region ?_
  refine V_y (Y_move rfl) rfl rfl rfl ?_
  obtain ⟨x1, hx1, hm⟩ := Option.bind_eq_some_iff.1 hm
  refine V_call Try.call5 rfl rfl rfl rfl (know_ReadQuery_c w hA s hx1) ?_
  rintro _ w4 ⟨v2, rfl, h3, hk5⟩
  have ht6 := Kp.tr hk5 hA hB
  replace hH := Hp.kp hH hk5
  replace hK := Tr.trans hK ht6
  replace hB := Nat.le_trans hB ht6.ex.size
  replace hA := ht6.new
  refine V_y (Y_move rfl) rfl rfl rfl ?_
  refine V_y (Y_extract rfl rfl) rfl rfl rfl ?_
  refine V_y (Y_extract rfl rfl) rfl rfl rfl ?_
  refine V_y (Y_extract rfl rfl) rfl rfl rfl ?_
  refine V_alloc Try.zeroValue24 rfl ?_
  intro b7 w9 h10
  have h15 : (v2).oneCell' = true := by obtain ⟨_, _, e, _⟩ := Sl.form h3; rw [e]; rfl
  refine V_storeNew h10 Try.sizeOf24 rfl rfl rfl rfl (by exact (List.forall_mem_cons.2 ⟨h15, (fun _ h => nomatch h)⟩)) ?_
  intro w11 h12
  have hk17 := h12.kp
  have h16 : El (α := know_Query) A w11 b7 0 x1.1 := h12.el hA ⟨_, rfl, h3⟩
  have ht18 := Kp.tr hk17 hA hB
  replace hH := Hp.kp hH hk17
  replace h3 := Sl.tr h3 ht18
  replace hK := Tr.trans hK ht18
  replace hB := Nat.le_trans hB ht18.ex.size
  replace hA := ht18.new
  refine V_y (Y_assign rfl) rfl rfl rfl ?_
  refine V_y (Y_assign rfl) rfl rfl rfl ?_
  refine V_to (fun _ _ => rfl) ?_
  refine C_seq ?_
  refine C_region ?_
  refine V_y (Y_move rfl) rfl rfl rfl ?_
  obtain ⟨x19, hx19, hm⟩ := Option.bind_eq_some_iff.1 hm
  refine V_call Try.call6 rfl rfl rfl rfl (portref2_ReadQueryOf_c w11 hA s hx19) ?_
  rintro _ w22 ⟨v20, rfl, h21, hk23⟩
  have ht24 := Kp.tr hk23 hA hB
  replace hH := Hp.kp hH hk23
  replace h16 := El.tr h16 ht24
  replace hK := Tr.trans hK ht24
  replace hB := Nat.le_trans hB ht24.ex.size
  replace hA := ht24.new
  refine V_y (Y_move rfl) rfl rfl rfl ?_
  refine V_y (Y_extract rfl rfl) rfl rfl rfl ?_
  refine V_y (Y_extract rfl rfl) rfl rfl rfl ?_
  refine V_y (Y_extract rfl rfl) rfl rfl rfl ?_
  refine V_alloc Try.zeroValue24 rfl ?_
  intro b25 w26 h27
  have h32 : (v20).oneCell' = true := by obtain ⟨_, _, e, _⟩ := Sl.form h21; rw [e]; rfl
  refine V_storeNew h27 Try.sizeOf24 rfl rfl rfl rfl (by exact (List.forall_mem_cons.2 ⟨h32, (fun _ h => nomatch h)⟩)) ?_
  intro w28 h29
  have hk34 := h29.kp
  have h33 : El (α := know_Query) A w28 b25 0 x19.1 := h29.el hA ⟨_, rfl, h21⟩
  have ht35 := Kp.tr hk34 hA hB
  replace hH := Hp.kp hH hk34
  replace h16 := El.tr h16 ht35
  replace h21 := Sl.tr h21 ht35
  replace hK := Tr.trans hK ht35
  replace hB := Nat.le_trans hB ht35.ex.size
  replace hA := ht35.new
  refine V_y (Y_assign rfl) rfl rfl rfl ?_
  refine V_y (Y_assign rfl) rfl rfl rfl ?_
  refine V_to (fun _ _ => rfl) ?_
  refine C_seq ?_
  obtain ⟨s37, ho36, hm⟩ := Option.bind_eq_some_iff.1 hm
  refine C_cutG (ι := (Nat → Prop)) (fun (A42 : (Nat → Prop)) => [(2, .bool s37)]) (fun (A42 : (Nat → Prop)) => fun w' => Hp w.heap.size A42 w' ([]) ∧ Tr w.heap.size A w28 A42 w') ?_ ?_
  · have hr38 : Tr w.heap.size A w28 A w28 := Tr.refl hA
    refine C_region ?_
    refine V_y (Y_move rfl) rfl rfl rfl ?_
    refine V_y (Y_move rfl) rfl rfl rfl ?_
    refine V_y (Y_eql rfl rfl) rfl rfl rfl ?_
    refine V_y (Y_move rfl) rfl rfl rfl ?_
    rcases Bool.eq_false_or_eq_true (x1.2.1 == x19.2.1) with hc44 | hc44
    · rw [if_pos hc44] at ho36
      refine V_ge rfl rfl rfl hc44 ?_
      refine V_y (Y_move rfl) rfl rfl rfl ?_
      refine V_ge rfl rfl rfl hc44 ?_
      refine V_y (Y_move rfl) rfl rfl rfl ?_
      refine V_ge rfl rfl rfl hc44 ?_
      refine V_y (Y_eql rfl rfl) rfl rfl rfl ?_
      refine V_y (Y_pick_te rfl hc44 rfl) rfl rfl rfl ?_
      refine V_y (Y_move rfl) rfl rfl rfl ?_
      rcases Bool.eq_false_or_eq_true (x1.2.2 == x19.2.2) with hc45 | hc45
      · rw [if_pos hc45] at ho36
        refine V_ge rfl rfl rfl hc45 ?_
        obtain ⟨v46, h48, h47⟩ := El_know_Query h16
        refine V_y (Y_loadA h48 Try.isAgg24 Try.sizeOf24 rfl) rfl rfl rfl ?_
        refine V_ge rfl rfl rfl hc45 ?_
        refine V_y (Y_mkIS Try.underlying24 rfl) rfl rfl rfl ?_
        refine V_ge rfl rfl rfl hc45 ?_
        obtain ⟨v49, h51, h50⟩ := El_know_Query h33
        refine V_y (Y_loadA h51 Try.isAgg24 Try.sizeOf24 rfl) rfl rfl rfl ?_
        refine V_ge rfl rfl rfl hc45 ?_
        refine V_y (Y_mkIS Try.underlying24 rfl) rfl rfl rfl ?_
        refine V_ge rfl rfl rfl hc45 ?_
        obtain ⟨x52, hx52, ho36⟩ := Option.bind_eq_some_iff.1 ho36
        refine V_call Try.call7 rfl rfl rfl rfl (portref2_Alike_c w28 hA x1.1 v46 h47 x19.1 v49 h50 hx52) ?_
        rintro _ w53 ⟨rfl, hk54⟩
        have ht55 := Kp.tr hk54 hA hB
        replace hH := Hp.kp hH hk54
        replace h16 := El.tr h16 ht55
        replace h33 := El.tr h33 ht55
        replace h47 := Sl.tr h47 ht55
        replace h50 := Sl.tr h50 ht55
        replace hK := Tr.trans hK ht55
        replace hr38 := Tr.trans hr38 ht55
        replace hB := Nat.le_trans hB ht55.ex.size
        replace hA := ht55.new
        refine V_y (Y_pick_te rfl hc45 rfl) rfl rfl rfl ?_
        refine V_y (Y_assign rfl) rfl rfl rfl ?_
        obtain rfl := Option.some.inj ho36
        refine V_end (fun a ha56 => ?_)
        exact ⟨A, ha56.sub ⟨rfl, trivial⟩, ⟨hH, hr38⟩⟩
      · rw [if_neg (nt hc45)] at ho36
        refine V_gn rfl rfl rfl hc45 rfl rfl rfl ?_
        refine V_gn rfl rfl rfl hc45 rfl rfl rfl ?_
        refine V_gn rfl rfl rfl hc45 rfl rfl rfl ?_
        refine V_gn rfl rfl rfl hc45 rfl rfl rfl ?_
        refine V_gn rfl rfl rfl hc45 rfl rfl rfl ?_
        refine V_y (Y_pick_fe rfl hc45 rfl) rfl rfl rfl ?_
        refine V_y (Y_assign rfl) rfl rfl rfl ?_
        obtain rfl := Option.some.inj ho36
        refine V_end (fun a ha57 => ?_)
        exact ⟨A, ha57.sub ⟨rfl, trivial⟩, ⟨hH, hr38⟩⟩
    · rw [if_neg (nt hc44)] at ho36
      refine V_gn rfl rfl rfl hc44 rfl rfl rfl ?_
      refine V_gn rfl rfl rfl hc44 rfl rfl rfl ?_
      refine V_gn rfl rfl rfl hc44 rfl rfl rfl ?_
      refine V_y (Y_pick_fe rfl hc44 rfl) rfl rfl rfl ?_
      refine V_y (Y_move rfl) rfl rfl rfl ?_
      rcases Bool.eq_false_or_eq_true (false) with hc58 | hc58
      · rw [if_pos hc58] at ho36
        refine V_ge rfl rfl rfl hc58 ?_
        obtain ⟨v59, h61, h60⟩ := El_know_Query h16
        refine V_y (Y_loadA h61 Try.isAgg24 Try.sizeOf24 rfl) rfl rfl rfl ?_
        refine V_ge rfl rfl rfl hc58 ?_
        refine V_y (Y_mkIS Try.underlying24 rfl) rfl rfl rfl ?_
        refine V_ge rfl rfl rfl hc58 ?_
        obtain ⟨v62, h64, h63⟩ := El_know_Query h33
        refine V_y (Y_loadA h64 Try.isAgg24 Try.sizeOf24 rfl) rfl rfl rfl ?_
        refine V_ge rfl rfl rfl hc58 ?_
        refine V_y (Y_mkIS Try.underlying24 rfl) rfl rfl rfl ?_
        refine V_ge rfl rfl rfl hc58 ?_
        obtain ⟨x65, hx65, ho36⟩ := Option.bind_eq_some_iff.1 ho36
        refine V_call Try.call7 rfl rfl rfl rfl (portref2_Alike_c w28 hA x1.1 v59 h60 x19.1 v62 h63 hx65) ?_
        rintro _ w66 ⟨rfl, hk67⟩
        have ht68 := Kp.tr hk67 hA hB
        replace hH := Hp.kp hH hk67
        replace h16 := El.tr h16 ht68
        replace h33 := El.tr h33 ht68
        replace h60 := Sl.tr h60 ht68
        replace h63 := Sl.tr h63 ht68
        replace hK := Tr.trans hK ht68
        replace hr38 := Tr.trans hr38 ht68
        replace hB := Nat.le_trans hB ht68.ex.size
        replace hA := ht68.new
        refine V_y (Y_pick_te rfl hc58 rfl) rfl rfl rfl ?_
        refine V_y (Y_assign rfl) rfl rfl rfl ?_
        obtain rfl := Option.some.inj ho36
        refine V_end (fun a ha69 => ?_)
        exact ⟨A, ha69.sub ⟨rfl, trivial⟩, ⟨hH, hr38⟩⟩
      · rw [if_neg (nt hc58)] at ho36
        refine V_gn rfl rfl rfl hc58 rfl rfl rfl ?_
        refine V_gn rfl rfl rfl hc58 rfl rfl rfl ?_
        refine V_gn rfl rfl rfl hc58 rfl rfl rfl ?_
        refine V_gn rfl rfl rfl hc58 rfl rfl rfl ?_
        refine V_gn rfl rfl rfl hc58 rfl rfl rfl ?_
        refine V_y (Y_pick_fe rfl hc58 rfl) rfl rfl rfl ?_
        refine V_y (Y_assign rfl) rfl rfl rfl ?_
        obtain rfl := Option.some.inj ho36
        refine V_end (fun a ha70 => ?_)
        exact ⟨A, ha70.sub ⟨rfl, trivial⟩, ⟨hH, hr38⟩⟩
  rintro A42 w39 ⟨hH43, hk40⟩ a ha41
  replace hK := Tr.trans hK hk40
  replace hB := Nat.le_trans hB hk40.ex.size
  replace hA := hk40.new
  replace hH : Hp w.heap.size A42 w39 ([]) := hH43
  refine C_at (n := ⟨36, [], none⟩) (fun _ _ => rfl) ?_ ha41
  obtain rfl := Option.some.inj hm
  refine C_ret ?_
  try simp only [↓inBlock_ret, ↓then_ret]
  exact retQ rfl (Res.one Try.results3 rfl) ⟨rfl, hK.kp⟩

end Go.Proofs.Ytgeagllbckdfhaa.W
