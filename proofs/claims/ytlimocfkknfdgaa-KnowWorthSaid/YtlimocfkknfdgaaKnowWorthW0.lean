/-
  Written by program (gen.py) from the IR of the dump: each function computes its model.
-/
import Derived.Test.YtlimocfkknfdgaaProg
import Derived.Test.YtlimocfkknfdgaaFx
import Derived.Test.YtlimocfkknfdgaaKnowWorthM
import Derived.KernelRfl
namespace Go.Proofs.Ytlimocfkknfdgaa.W
open Go Go.RowKit Go.Pu Go.Fw Go.Proofs Go.Proofs.Ytlimocfkknfdgaa.M
set_option linter.unusedVariables false


theorem Try_mixed : Try.prog.follows .mixedOrders = true := by kernel_rfl

instance : GoT know_Vote := GoT.of (β := Int × Int × Bool) fun x => (x.id, x.at_, x.good)

theorem El_know_Vote_ {A : Nat → Prop} {w : World} {b off : Nat} {x : know_Vote} (h : El A w b off x) : El (α := Int × Int × Bool) A w b off (x.id, x.at_, x.good) := h

theorem El_know_Vote_0 {A : Nat → Prop} {w : World} {b off : Nat} {x : know_Vote} (h : El A w b off x) : El A w b (off + 0) x.id := El.fst (El_know_Vote_ h)

theorem El_know_Vote_1 {A : Nat → Prop} {w : World} {b off : Nat} {x : know_Vote} (h : El A w b off x) : El A w b (off + 1) x.at_ := El.fst (El.snd (El_know_Vote_ h))

theorem El_know_Vote_2 {A : Nat → Prop} {w : World} {b off : Nat} {x : know_Vote} (h : El A w b off x) : El A w b (off + 2) x.good := El.snd (El.snd (El_know_Vote_ h))

theorem El_know_Vote {A : Nat → Prop} {w : World} {b off : Nat} {x : know_Vote} (h : El A w b off x) : At w b off [.int .i64 x.id, .int .i64 x.at_, .bool x.good] ∧ True := by
  obtain ⟨h1, h2, cs, h3, h4⟩ := h
  obtain ⟨_, _, rfl, rfl, ⟨_, _, rfl, rfl, rfl⟩⟩ := h3
  exact ⟨h4, trivial⟩

set_option maxRecDepth 4000 in
theorem know_within_c (w : World)  (n : Int) (low : Int) (high : Int) : Ret Try.prog 13 #[.int .i64 n, .int .i64 low, .int .i64 high] w fun v w' => v = .bool (know_within n low high) ∧ w = w' := by
  generalize hm : know_within n low high = r
  unfold know_within at hm
  refine enter Try.func13 rfl Try.ntmps13 rfl ?_
  refine C_seq ?_
  refine C_region ?_
  refine V_y (Y_assign rfl) rfl rfl rfl ?_
  refine V_to (fun _ _ => rfl) ?_
  refine C_seq ?_
  refine C_region ?_
  refine V_y (Y_move rfl) rfl rfl rfl ?_
  refine V_y (Y_move rfl) rfl rfl rfl ?_
  refine V_y (Y_geq rfl rfl) rfl rfl rfl ?_
  refine V_y (Y_move rfl) rfl rfl rfl ?_
  refine V_cut 4 (fun _ : Unit => [(14, .bool ((decide (low ≤ n)) && (decide (n ≤ high))))]) (fun _ w' => w = w') ?_ ?_
  · simp only [List.take, List.drop]
    rcases Bool.eq_false_or_eq_true (decide (low ≤ n)) with hc1 | hc1
    · refine V_ge rfl rfl rfl hc1 ?_
      refine V_y (Y_move rfl) rfl rfl rfl ?_
      refine V_ge rfl rfl rfl hc1 ?_
      refine V_y (Y_move rfl) rfl rfl rfl ?_
      refine V_ge rfl rfl rfl hc1 ?_
      refine V_y (Y_leq rfl rfl) rfl rfl rfl ?_
      refine V_y (Y_pick_te rfl hc1 rfl) rfl rfl rfl ?_
      exact V_end fun a ha => ⟨(), ha.sub ⟨(by rw [hc1]; rfl), trivial⟩, rfl⟩
    · refine V_gn rfl rfl rfl hc1 rfl rfl rfl ?_
      refine V_gn rfl rfl rfl hc1 rfl rfl rfl ?_
      refine V_gn rfl rfl rfl hc1 rfl rfl rfl ?_
      refine V_y (Y_pick_fe rfl hc1 rfl) rfl rfl rfl ?_
      exact V_end fun a ha => ⟨(), ha.sub ⟨(by rw [hc1]; rfl), trivial⟩, rfl⟩
  simp only [List.take, List.drop]
  rintro _ _ rfl
  refine V_y (Y_assign rfl) rfl rfl rfl ?_
  refine V_to (fun _ _ => rfl) ?_
  obtain rfl := hm
  refine C_ret fun a ha => ?_
  try simp only [↓inBlock_ret, ↓then_ret]
  exact ret1 ha Try.results13 rfl ⟨rfl, rfl⟩

set_option maxRecDepth 4000 in
theorem know_Worth_c (w : World) {A : Nat → Prop} (hA : ∀ b, w.heap.size ≤ b → A b) (l : (List know_Vote)) (v_l : Value) (h_l : Sl A w v_l l) (id : Int) (m : Int) (half : Int) {r : (Int × Int)} (hm : know_Worth l id m half = some r) : Ret Try.prog 6 #[v_l, .int .i64 id, .int .i64 m, .int .i64 half] w fun v w' => v = .tuple #[.int .i64 r.1, .int .i64 r.2] ∧ Kp w w' := by
  unfold know_Worth at hm
  refine enter Try.func6 rfl Try.ntmps6 rfl ?_
  have hK := Kp.refl w
  refine C_seq ?_
  refine C_region ?_
  refine V_y (Y_assign rfl) rfl rfl rfl ?_
  refine V_y (Y_assign rfl) rfl rfl rfl ?_
  refine V_to (fun _ _ => rfl) ?_
  refine C_seq ?_
  refine C_seq ?_
  refine C_region ?_
  refine V_y (Y_move rfl) rfl rfl rfl ?_
  refine V_y (Y_lenSl h_l rfl Try.underlying22 rfl) rfl rfl rfl ?_
  refine V_y (Y_gtr rfl rfl) rfl rfl rfl ?_
  refine V_to (fun _ _ => rfl) ?_
  refine C_cond rfl (fun hc7 => ?_) (fun hc7 => ?_)
  · rw [if_pos hc7] at hm
    refine C_seq ?_
    refine C_region ?_
    refine V_y (Y_assign rfl) rfl rfl rfl ?_
    refine V_y (Y_assign rfl) rfl rfl rfl ?_
    refine V_to (fun _ _ => rfl) ?_
    obtain rfl := Option.some.inj hm
    refine C_ret fun a ha => ?_
    try simp only [↓inBlock_ret, ↓then_ret]
    exact ret2 ha Try.results6 rfl rfl ⟨rfl, hK⟩
  · rw [if_neg (nt hc7)] at hm
    refine C_skip_to (fun _ _ => rfl) ?_
    refine C_seq ?_
    refine C_seq ?_
    refine C_region ?_
    refine V_y (Y_move rfl) rfl rfl rfl ?_
    refine V_y (Y_lenSl h_l rfl Try.underlying22 rfl) rfl rfl rfl ?_
    refine V_y (Y_move rfl) rfl rfl rfl ?_
    refine V_to (fun _ _ => rfl) ?_
    obtain ⟨o12, ho12, hm⟩ := Option.bind_eq_some_iff.1 hm
    refine C_cutG (ι := Unit) (fun (s13 : Unit) => [(0, v_l), (1, .int .i64 id), (2, .int .i64 m), (3, .int .i64 half)]) (fun (s13 : Unit) => fun w' => o12 = .fin s13 ∧ Kp w w') ?_ ?_
    · refine C_block ?_
      refine C_range ho12 (fun k16 _ a w' => ∃ i : Unit, Has 75 a ([(0, v_l), (1, .int .i64 id), (2, .int .i64 m), (3, .int .i64 half), (20, v_l), (21, .int .i64 (l.length : Int)), (22, .int .i64 (k16 : Int))]) ∧ Kp w w') (fun a ha => ⟨(), ha.sub ⟨rfl, rfl, rfl, rfl, rfl, rfl, rfl, trivial⟩, Kp.refl _⟩) ?_
      rintro K k16 _ a w21 ⟨_, ha44, hr15⟩ hle25 K28 h27
      refine C_of ?_ ha44
      replace h_l := h_l.kp hr15
      replace hK := Kp.trans hK hr15
      replace hA : ∀ b, w21.heap.size ≤ b → A b := fun b hb => hA b (Nat.le_trans hr15.size hb)
      refine C_seq (C_region (V_y (Y_lss rfl rfl) rfl rfl rfl (V_to (fun _ _ => rfl) ?_)))
      refine C_seq ?_
      refine C_cond rfl (fun hc29 => ?_) (fun hc29 => ?_)
      · have hlt26 := lt_of_dec hc29
        obtain ⟨x22, h23, h24⟩ := K28 hlt26
        refine C_skip_to (fun _ _ => rfl) ?_
        refine C_seq ?_
        refine C_block ?_
        refine C_seq ?_
        refine C_region ?_
        obtain ⟨x30, hx30, h23⟩ := Option.bind_eq_some_iff.1 h23
        refine V_indexAddr h_l hx30 Try.underlying22 Try.sizeOf38 rfl rfl rfl ?_
        intro b31 o32 h33
        obtain ⟨h34, _⟩ := El_know_Vote h33
        refine V_y (Y_loadA h34 Try.isAgg38 Try.sizeOf38 rfl) rfl rfl rfl ?_
        refine V_alloc Try.zeroValue38 rfl ?_
        intro b35 w36 h37
        refine V_storeNew h37 Try.sizeOf38 rfl rfl rfl rfl (by simp [Value.cells, Value.oneCell']) ?_
        intro w38 h39
        have hk40 := h39.kp
        have h41 : El (α := know_Vote) A w38 b35 0 x30 := h39.el hA ⟨[.int .i64 x30.id], _, rfl, rfl, ⟨[.int .i64 x30.at_], _, rfl, rfl, rfl⟩⟩
        replace h_l := h_l.kp hk40
        replace h33 := h33.kp hk40
        replace hK := Kp.trans hK hk40
        replace hr15 := Kp.trans hr15 hk40
        replace hA : ∀ b, w38.heap.size ≤ b → A b := fun b hb => hA b (Nat.le_trans hk40.size hb)
        refine V_to (fun _ _ => rfl) ?_
        refine C_seq ?_
        refine C_region ?_
        have h42 := El_know_Vote_1 h41
        refine V_y (Y_fieldAddr Try.underlying38 rfl Try.sizeOf3 (by decide) rfl) rfl rfl rfl ?_
        refine V_y (Y_load (El.int h42) Try.isAgg3 rfl) rfl rfl rfl ?_
        refine V_call Try.call13 rfl rfl rfl rfl (know_within_c w38 x30.at_ 0 3000000) ?_
        rintro _ _ ⟨rfl, rfl⟩
        refine V_y (Y_not rfl) rfl rfl rfl ?_
        refine V_to (fun _ _ => rfl) ?_
        refine C_cond rfl (fun hc43 => ?_) (fun hc43 => ?_)
        · rw [if_pos hc43] at h23
          refine C_seq ?_
          refine C_region ?_
          refine V_y (Y_assign rfl) rfl rfl rfl ?_
          refine V_y (Y_assign rfl) rfl rfl rfl ?_
          refine V_to (fun _ _ => rfl) ?_
          obtain rfl := Option.some.inj h23
          obtain rfl := (h24 : Lp.rt _ = _)
          rw [Lp.andThen_rt] at hm
          obtain rfl := Option.some.inj hm
          refine C_ret fun a ha => ?_
          try simp only [↓inBlock_ret, ↓then_ret]
          exact ret2 ha Try.results6 rfl rfl ⟨rfl, hK⟩
        · rw [if_neg (nt hc43)] at h23
          refine C_skip_to (fun _ _ => rfl) ?_
          refine C_region ?_
          refine V_y (Y_addI rfl rfl) rfl rfl rfl ?_
          refine V_y (Y_move rfl) rfl rfl rfl ?_
          obtain rfl := Option.some.inj h23
          exact V_end fun a ha => ⟨(), hlt26, h24, ⟨(), ha.sub ⟨rfl, rfl, rfl, rfl, rfl, rfl, (congrArg (fun z => some (Value.int .i64 z)) (w64_succ hlt26 (Sl.le h_l))), trivial⟩, hr15⟩⟩
      · exact C_exit fun a ha => ⟨(), ha.sub ⟨rfl, rfl, rfl, rfl, trivial⟩, ⟨(h27 (eq_of_dec hle25 hc29)).symm, hr15⟩⟩
    rintro s13 w17 ⟨rfl, hk18⟩ a ha19
    rw [Lp.andThen_fin] at hm
    replace h_l := h_l.kp hk18
    replace hK := Kp.trans hK hk18
    replace hA : ∀ b, w17.heap.size ≤ b → A b := fun b hb => hA b (Nat.le_trans hk18.size hb)
    refine C_at (fun _ _ => rfl) ?_ ha19
    refine C_seq ?_
    refine C_seq ?_
    refine C_region ?_
    refine V_y (Y_move rfl) rfl rfl rfl ?_
    refine V_call Try.call13 rfl rfl rfl rfl (know_within_c w17 m 0 3000000) ?_
    rintro _ _ ⟨rfl, rfl⟩
    refine V_y (Y_not rfl) rfl rfl rfl ?_
    refine V_y (Y_move rfl) rfl rfl rfl ?_
    refine V_cut 4 (fun _ : Unit => [(0, v_l), (1, .int .i64 id), (2, .int .i64 m), (3, .int .i64 half), (38, .bool ((!(know_within m 0 3000000)) || (!(know_within half 1 3000000))))]) (fun _ w' => w17 = w') ?_ ?_
    · simp only [List.take, List.drop]
      rcases Bool.eq_false_or_eq_true (!(know_within m 0 3000000)) with hc45 | hc45
      · refine V_gn rfl rfl rfl hc45 rfl rfl rfl ?_
        refine V_gn rfl rfl rfl hc45 rfl rfl rfl ?_
        refine V_gn rfl rfl rfl hc45 rfl rfl rfl ?_
        refine V_y (Y_pick_te rfl hc45 rfl) rfl rfl rfl ?_
        exact V_end fun a ha => ⟨(), ha.sub ⟨rfl, rfl, rfl, rfl, (by rw [hc45]; rfl), trivial⟩, rfl⟩
      · refine V_ge rfl rfl rfl hc45 ?_
        refine V_y (Y_move rfl) rfl rfl rfl ?_
        refine V_ge rfl rfl rfl hc45 ?_
        refine V_call Try.call13 rfl rfl rfl rfl (know_within_c w17 half 1 3000000) ?_
        rintro _ _ ⟨rfl, rfl⟩
        refine V_ge rfl rfl rfl hc45 ?_
        refine V_y (Y_not rfl) rfl rfl rfl ?_
        refine V_y (Y_pick_fe rfl hc45 rfl) rfl rfl rfl ?_
        exact V_end fun a ha => ⟨(), ha.sub ⟨rfl, rfl, rfl, rfl, (by rw [hc45]; rfl), trivial⟩, rfl⟩
    simp only [List.take, List.drop]
    rintro _ _ rfl
    refine V_to (fun _ _ => rfl) ?_
    refine C_cond rfl (fun hc48 => ?_) (fun hc48 => ?_)
    · rw [if_pos hc48] at hm
      refine C_seq ?_
      refine C_region ?_
      refine V_y (Y_assign rfl) rfl rfl rfl ?_
      refine V_y (Y_assign rfl) rfl rfl rfl ?_
      refine V_to (fun _ _ => rfl) ?_
      obtain rfl := Option.some.inj hm
      refine C_ret fun a ha => ?_
      try simp only [↓inBlock_ret, ↓then_ret]
      exact ret2 ha Try.results6 rfl rfl ⟨rfl, hK⟩
    · rw [if_neg (nt hc48)] at hm
      refine C_skip_to (fun _ _ => rfl) ?_
      refine C_seq ?_
      refine C_region ?_
      refine V_y (Y_assign rfl) rfl rfl rfl ?_
      refine V_to (fun _ _ => rfl) ?_
      refine C_seq ?_
      refine C_seq ?_
      refine C_region ?_
      refine V_y (Y_move rfl) rfl rfl rfl ?_
      refine V_y (Y_lenSl h_l rfl Try.underlying22 rfl) rfl rfl rfl ?_
      refine V_y (Y_move rfl) rfl rfl rfl ?_
      refine V_to (fun _ _ => rfl) ?_
      obtain ⟨o53, ho53, hm⟩ := Option.bind_eq_some_iff.1 hm
      refine C_cutG (ι := Int) (fun (s54 : Int) => [(12, .int .i64 s54)]) (fun (s54 : Int) => fun w' => o53 = .fin s54 ∧ Kp w17 w') ?_ ?_
      · refine C_block ?_
        refine C_range ho53 (fun k57 s61 a w' => ∃ i : Unit, Has 75 a ([(1, .int .i64 id), (2, .int .i64 m), (3, .int .i64 half), (12, .int .i64 s61), (39, v_l), (40, .int .i64 (l.length : Int)), (41, .int .i64 (k57 : Int))]) ∧ Kp w17 w') (fun a ha => ⟨(), ha.sub ⟨rfl, rfl, rfl, rfl, rfl, rfl, rfl, trivial⟩, Kp.refl _⟩) ?_
        rintro K k57 s61 a w62 ⟨_, ha107, hr56⟩ hle66 K69 h68
        refine C_of ?_ ha107
        replace h_l := h_l.kp hr56
        replace hK := Kp.trans hK hr56
        replace hA : ∀ b, w62.heap.size ≤ b → A b := fun b hb => hA b (Nat.le_trans hr56.size hb)
        refine C_seq (C_region (V_y (Y_lss rfl rfl) rfl rfl rfl (V_to (fun _ _ => rfl) ?_)))
        refine C_seq ?_
        refine C_cond rfl (fun hc70 => ?_) (fun hc70 => ?_)
        · have hlt67 := lt_of_dec hc70
          obtain ⟨x63, h64, h65⟩ := K69 hlt67
          refine C_skip_to (fun _ _ => rfl) ?_
          refine C_seq ?_
          obtain ⟨s72, ho71, h64⟩ := Option.bind_eq_some_iff.1 h64
          refine C_cutG (ι := Unit) (fun (_ : Unit) => [(1, .int .i64 id), (2, .int .i64 m), (3, .int .i64 half), (12, .int .i64 s72), (39, v_l), (40, .int .i64 (l.length : Int)), (41, .int .i64 (k57 : Int))]) (fun (_ : Unit) => fun w' => Kp w62 w') ?_ ?_
          · have hr73 := Kp.refl w62
            refine C_block ?_
            refine C_seq ?_
            refine C_region ?_
            obtain ⟨x77, hx77, ho71⟩ := Option.bind_eq_some_iff.1 ho71
            refine V_indexAddr h_l hx77 Try.underlying22 Try.sizeOf38 rfl rfl rfl ?_
            intro b78 o79 h80
            obtain ⟨h81, _⟩ := El_know_Vote h80
            refine V_y (Y_loadA h81 Try.isAgg38 Try.sizeOf38 rfl) rfl rfl rfl ?_
            refine V_alloc Try.zeroValue38 rfl ?_
            intro b82 w83 h84
            refine V_storeNew h84 Try.sizeOf38 rfl rfl rfl rfl (by simp [Value.cells, Value.oneCell']) ?_
            intro w85 h86
            have hk87 := h86.kp
            have h88 : El (α := know_Vote) A w85 b82 0 x77 := h86.el hA ⟨[.int .i64 x77.id], _, rfl, rfl, ⟨[.int .i64 x77.at_], _, rfl, rfl, rfl⟩⟩
            replace h_l := h_l.kp hk87
            replace h80 := h80.kp hk87
            replace hK := Kp.trans hK hk87
            replace hr56 := Kp.trans hr56 hk87
            replace hr73 := Kp.trans hr73 hk87
            replace hA : ∀ b, w85.heap.size ≤ b → A b := fun b hb => hA b (Nat.le_trans hk87.size hb)
            refine V_to (fun _ _ => rfl) ?_
            refine C_seq ?_
            refine C_seq ?_
            refine C_region ?_
            have h89 := El_know_Vote_0 h88
            refine V_y (Y_fieldAddr Try.underlying38 rfl Try.sizeOf3 (by decide) rfl) rfl rfl rfl ?_
            refine V_y (Y_load (El.int h89) Try.isAgg3 rfl) rfl rfl rfl ?_
            refine V_y (Y_move rfl) rfl rfl rfl ?_
            refine V_y (Y_neq rfl rfl) rfl rfl rfl ?_
            refine V_y (Y_move rfl) rfl rfl rfl ?_
            refine V_cut 5 (fun _ : Unit => [(1, .int .i64 id), (2, .int .i64 m), (3, .int .i64 half), (12, .int .i64 s61), (14, .pointer (some ⟨b82, 0, none⟩)), (39, v_l), (40, .int .i64 (l.length : Int)), (41, .int .i64 (k57 : Int)), (54, .bool ((x77.id != id) || (decide (m < x77.at_))))]) (fun _ w' => w85 = w') ?_ ?_
            · simp only [List.take, List.drop]
              rcases Bool.eq_false_or_eq_true (x77.id != id) with hc90 | hc90
              · refine V_gn rfl rfl rfl hc90 rfl rfl rfl ?_
                refine V_gn rfl rfl rfl hc90 rfl rfl rfl ?_
                refine V_gn rfl rfl rfl hc90 rfl rfl rfl ?_
                refine V_gn rfl rfl rfl hc90 rfl rfl rfl ?_
                refine V_y (Y_pick_te rfl hc90 rfl) rfl rfl rfl ?_
                exact V_end fun a ha => ⟨(), ha.sub ⟨rfl, rfl, rfl, rfl, rfl, rfl, rfl, rfl, (by rw [hc90]; rfl), trivial⟩, rfl⟩
              · refine V_ge rfl rfl rfl hc90 ?_
                have h93 := El_know_Vote_1 h88
                refine V_y (Y_fieldAddr Try.underlying38 rfl Try.sizeOf3 (by decide) rfl) rfl rfl rfl ?_
                refine V_ge rfl rfl rfl hc90 ?_
                refine V_y (Y_load (El.int h93) Try.isAgg3 rfl) rfl rfl rfl ?_
                refine V_ge rfl rfl rfl hc90 ?_
                refine V_y (Y_move rfl) rfl rfl rfl ?_
                refine V_ge rfl rfl rfl hc90 ?_
                refine V_y (Y_gtr rfl rfl) rfl rfl rfl ?_
                refine V_y (Y_pick_fe rfl hc90 rfl) rfl rfl rfl ?_
                exact V_end fun a ha => ⟨(), ha.sub ⟨rfl, rfl, rfl, rfl, rfl, rfl, rfl, rfl, (by rw [hc90]; rfl), trivial⟩, rfl⟩
            simp only [List.take, List.drop]
            rintro _ _ rfl
            refine V_to (fun _ _ => rfl) ?_
            refine C_cond rfl (fun hc94 => ?_) (fun hc94 => ?_)
            · rw [if_pos hc94] at ho71
              obtain rfl := Option.some.inj ho71
              exact C_exit fun a ha => ⟨(), ha.sub ⟨rfl, rfl, rfl, rfl, rfl, rfl, rfl, trivial⟩, hr73⟩
            · rw [if_neg (nt hc94)] at ho71
              refine C_skip_to (fun _ _ => rfl) ?_
              refine C_seq ?_
              refine C_region ?_
              refine V_y (Y_move rfl) rfl rfl rfl ?_
              have h95 := El_know_Vote_1 h88
              refine V_y (Y_fieldAddr Try.underlying38 rfl Try.sizeOf3 (by decide) rfl) rfl rfl rfl ?_
              refine V_y (Y_load (El.int h95) Try.isAgg3 rfl) rfl rfl rfl ?_
              refine V_y (Y_subI rfl rfl) rfl rfl rfl ?_
              refine V_y (Y_move rfl) rfl rfl rfl ?_
              obtain ⟨x96, hx96, ho71⟩ := Option.bind_eq_some_iff.1 ho71
              refine V_y (Y_quo hx96 rfl rfl) rfl rfl rfl ?_
              refine V_y (Y_assign rfl) rfl rfl rfl ?_
              refine V_to (fun _ _ => rfl) ?_
              refine C_seq ?_
              refine C_seq ?_
              refine C_region ?_
              refine V_y (Y_move rfl) rfl rfl rfl ?_
              refine V_y (Y_geq rfl rfl) rfl rfl rfl ?_
              refine V_to (fun _ _ => rfl) ?_
              refine C_cond rfl (fun hc97 => ?_) (fun hc97 => ?_)
              · rw [if_pos hc97] at ho71
                obtain rfl := Option.some.inj ho71
                exact C_exit fun a ha => ⟨(), ha.sub ⟨rfl, rfl, rfl, rfl, rfl, rfl, rfl, trivial⟩, hr73⟩
              · rw [if_neg (nt hc97)] at ho71
                refine C_skip_to (fun _ _ => rfl) ?_
                refine C_seq ?_
                refine C_region ?_
                refine V_y (Y_move rfl) rfl rfl rfl ?_
                obtain ⟨x98, hx98, ho71⟩ := Option.bind_eq_some_iff.1 ho71
                refine V_y (Y_shr hx98 rfl rfl) rfl rfl rfl ?_
                refine V_y (Y_assign rfl) rfl rfl rfl ?_
                refine V_to (fun _ _ => rfl) ?_
                refine C_seq ?_
                refine C_seq ?_
                refine C_region ?_
                have h99 := El_know_Vote_2 h88
                refine V_y (Y_fieldAddr Try.underlying38 rfl Try.sizeOf4 (by decide) rfl) rfl rfl rfl ?_
                refine V_y (Y_load (El.bool h99) Try.isAgg4 rfl) rfl rfl rfl ?_
                refine V_y (Y_not rfl) rfl rfl rfl ?_
                refine V_to (fun _ _ => rfl) ?_
                obtain ⟨s101, ho100, ho71⟩ := Option.bind_eq_some_iff.1 ho71
                refine C_cutG (ι := Unit) (fun (_ : Unit) => [(1, .int .i64 id), (2, .int .i64 m), (3, .int .i64 half), (12, .int .i64 s61), (16, .int .i64 s101), (39, v_l), (40, .int .i64 (l.length : Int)), (41, .int .i64 (k57 : Int))]) (fun (_ : Unit) => fun w' => w85 = w') ?_ ?_
                · refine C_cond rfl (fun hc106 => ?_) (fun hc106 => ?_)
                  · rw [if_pos hc106] at ho100
                    refine C_region ?_
                    refine V_y (Y_move rfl) rfl rfl rfl ?_
                    refine V_y (Y_negI rfl) rfl rfl rfl ?_
                    refine V_y (Y_assign rfl) rfl rfl rfl ?_
                    obtain rfl := Option.some.inj ho100
                    exact V_end fun a ha => ⟨(), ha.sub ⟨rfl, rfl, rfl, rfl, rfl, rfl, rfl, rfl, trivial⟩, rfl⟩
                  · rw [if_neg (nt hc106)] at ho100
                    obtain rfl := Option.some.inj ho100
                    exact C_skip fun a ha => ⟨(), ha.sub ⟨rfl, rfl, rfl, rfl, rfl, rfl, rfl, rfl, trivial⟩, rfl⟩
                rintro _ _ rfl a ha105
                refine C_at (fun _ _ => rfl) ?_ ha105
                refine C_region ?_
                refine V_y (Y_move rfl) rfl rfl rfl ?_
                refine V_y (Y_move rfl) rfl rfl rfl ?_
                refine V_y (Y_addI rfl rfl) rfl rfl rfl ?_
                refine V_y (Y_assign rfl) rfl rfl rfl ?_
                obtain rfl := Option.some.inj ho71
                exact V_end fun a ha => ⟨(), ha.sub ⟨rfl, rfl, rfl, rfl, rfl, rfl, rfl, trivial⟩, hr73⟩
          rintro _ w74 hk75 a ha76
          replace h_l := h_l.kp hk75
          replace hK := Kp.trans hK hk75
          replace hr56 := Kp.trans hr56 hk75
          replace hA : ∀ b, w74.heap.size ≤ b → A b := fun b hb => hA b (Nat.le_trans hk75.size hb)
          refine C_at (fun _ _ => rfl) ?_ ha76
          refine C_region ?_
          refine V_y (Y_addI rfl rfl) rfl rfl rfl ?_
          refine V_y (Y_move rfl) rfl rfl rfl ?_
          obtain rfl := Option.some.inj h64
          exact V_end fun a ha => ⟨s72, hlt67, h65, ⟨(), ha.sub ⟨rfl, rfl, rfl, rfl, rfl, rfl, (congrArg (fun z => some (Value.int .i64 z)) (w64_succ hlt67 (Sl.le h_l))), trivial⟩, hr56⟩⟩
        · exact C_exit fun a ha => ⟨s61, ha.sub ⟨rfl, trivial⟩, ⟨(h68 (eq_of_dec hle66 hc70)).symm, hr56⟩⟩
      rintro s54 w58 ⟨rfl, hk59⟩ a ha60
      rw [Lp.andThen_fin] at hm
      replace hK := Kp.trans hK hk59
      replace hA : ∀ b, w58.heap.size ≤ b → A b := fun b hb => hA b (Nat.le_trans hk59.size hb)
      refine C_at (fun _ _ => rfl) ?_ ha60
      refine C_seq ?_
      refine C_region ?_
      refine V_y (Y_move rfl) rfl rfl rfl ?_
      refine V_y (Y_assign rfl) rfl rfl rfl ?_
      refine V_y (Y_assign rfl) rfl rfl rfl ?_
      refine V_to (fun _ _ => rfl) ?_
      obtain rfl := Option.some.inj hm
      refine C_ret fun a ha => ?_
      try simp only [↓inBlock_ret, ↓then_ret]
      exact ret2 ha Try.results6 rfl rfl ⟨rfl, hK⟩

set_option maxRecDepth 4000 in
theorem slices_IndexFunc_Lknow_Vote_know_Vote_c (w : World) {A : Nat → Prop} (hA : ∀ b, w.heap.size ≤ b → A b) (s : (List know_Vote)) (v_s : Value) (h_s : Sl A w v_s s) (f : know_Vote → Option Bool) (f_f : FuncId) (f_a f_c : Array Value) (f_call : ∀ (args : Array Value) (w : World), (callFunc f_f args).run Try.prog w = .ok (.enter f_f args) w) (f_spec : ∀ w1, Kp w w1 → ∀ (y0 : know_Vote) (r : Bool), f y0 = some r → Ret Try.prog f_f (f_a ++ #[.agg #[.int .i64 y0.id, .int .i64 y0.at_, .bool y0.good]] ++ f_c) w1 fun v w' => v = .bool r ∧ Kp w1 w') {r : Int} (hm : slices_IndexFunc_Lknow_Vote_know_Vote s f = some r) : Ret Try.prog 58 #[v_s, .func (.func f_f) f_a f_c] w fun v w' => v = .int .i64 r ∧ Kp w w' := by
  unfold slices_IndexFunc_Lknow_Vote_know_Vote at hm
  refine enter Try.func58 rfl Try.ntmps58 rfl ?_
  have hK := Kp.refl w
  refine C_seq ?_
  refine C_region ?_
  refine V_y (Y_assign rfl) rfl rfl rfl ?_
  refine V_to (fun _ _ => rfl) ?_
  refine C_seq ?_
  refine C_seq ?_
  refine C_region ?_
  refine V_y (Y_move rfl) rfl rfl rfl ?_
  refine V_y (Y_lenSl h_s rfl Try.underlying22 rfl) rfl rfl rfl ?_
  refine V_y (Y_move rfl) rfl rfl rfl ?_
  refine V_to (fun _ _ => rfl) ?_
  obtain ⟨o7, ho7, hm⟩ := Option.bind_eq_some_iff.1 hm
  refine C_cutG (ι := Unit) (fun (s8 : Unit) => []) (fun (s8 : Unit) => fun w' => o7 = .fin s8 ∧ Kp w w') ?_ ?_
  · refine C_block ?_
    refine C_range ho7 (fun k11 _ a w' => ∃ i : Unit, Has 19 a ([(0, v_s), (1, .func (.func f_f) f_a f_c), (7, .int .i64 (s.length : Int)), (8, .int .i64 (k11 : Int))]) ∧ Kp w w') (fun a ha => ⟨(), ha.sub ⟨rfl, rfl, rfl, rfl, trivial⟩, Kp.refl _⟩) ?_
    rintro K k11 _ a w17 ⟨_, ha36, hr10⟩ hle21 K24 h23
    refine C_of ?_ ha36
    replace h_s := h_s.kp hr10
    replace hK := Kp.trans hK hr10
    replace hA : ∀ b, w17.heap.size ≤ b → A b := fun b hb => hA b (Nat.le_trans hr10.size hb)
    refine C_seq (C_region (V_y (Y_lss rfl rfl) rfl rfl rfl (V_to (fun _ _ => rfl) ?_)))
    refine C_seq ?_
    refine C_cond rfl (fun hc25 => ?_) (fun hc25 => ?_)
    · have hlt22 := lt_of_dec hc25
      obtain ⟨x18, h19, h20⟩ := K24 hlt22
      refine C_skip_to (fun _ _ => rfl) ?_
      refine C_seq ?_
      refine C_block ?_
      refine C_seq ?_
      refine C_region ?_
      refine V_y (Y_move rfl) rfl rfl rfl ?_
      refine V_y (Y_assign rfl) rfl rfl rfl ?_
      refine V_to (fun _ _ => rfl) ?_
      refine C_seq ?_
      refine C_region ?_
      refine V_y (Y_move rfl) rfl rfl rfl ?_
      refine V_y (Y_move rfl) rfl rfl rfl ?_
      refine V_y (Y_move rfl) rfl rfl rfl ?_
      obtain ⟨x26, hx26, h19⟩ := Option.bind_eq_some_iff.1 h19
      refine V_indexAddr h_s hx26 Try.underlying22 Try.sizeOf38 rfl rfl rfl ?_
      intro b27 o28 h29
      obtain ⟨h30, _⟩ := El_know_Vote h29
      refine V_y (Y_loadA h30 Try.isAgg38 Try.sizeOf38 rfl) rfl rfl rfl ?_
      obtain ⟨x31, hx31, h19⟩ := Option.bind_eq_some_iff.1 h19
      refine V_call f_call rfl rfl rfl rfl (f_spec w17 hK x26 _ hx31) ?_
      rintro _ w33 ⟨rfl, hk34⟩
      replace h_s := h_s.kp hk34
      replace h29 := h29.kp hk34
      replace hK := Kp.trans hK hk34
      replace hr10 := Kp.trans hr10 hk34
      replace hA : ∀ b, w33.heap.size ≤ b → A b := fun b hb => hA b (Nat.le_trans hk34.size hb)
      refine V_to (fun _ _ => rfl) ?_
      refine C_cond rfl (fun hc35 => ?_) (fun hc35 => ?_)
      · rw [if_pos hc35] at h19
        refine C_seq ?_
        refine C_region ?_
        refine V_y (Y_move rfl) rfl rfl rfl ?_
        refine V_y (Y_assign rfl) rfl rfl rfl ?_
        refine V_to (fun _ _ => rfl) ?_
        obtain rfl := Option.some.inj h19
        obtain rfl := (h20 : Lp.rt _ = _)
        rw [Lp.andThen_rt] at hm
        obtain rfl := Option.some.inj hm
        refine C_ret fun a ha => ?_
        try simp only [↓inBlock_ret, ↓then_ret]
        exact ret1 ha Try.results58 rfl ⟨rfl, hK⟩
      · rw [if_neg (nt hc35)] at h19
        refine C_skip_to (fun _ _ => rfl) ?_
        refine C_region ?_
        refine V_y (Y_addI rfl rfl) rfl rfl rfl ?_
        refine V_y (Y_move rfl) rfl rfl rfl ?_
        obtain rfl := Option.some.inj h19
        exact V_end fun a ha => ⟨(), hlt22, h20, ⟨(), ha.sub ⟨rfl, rfl, rfl, (congrArg (fun z => some (Value.int .i64 z)) (w64_succ hlt22 (Sl.le h_s))), trivial⟩, hr10⟩⟩
    · exact C_exit fun a ha => ⟨(), ha.sub trivial, ⟨(h23 (eq_of_dec hle21 hc25)).symm, hr10⟩⟩
  rintro s8 w12 ⟨rfl, hk13⟩ a ha14
  rw [Lp.andThen_fin] at hm
  replace hK := Kp.trans hK hk13
  replace hA : ∀ b, w12.heap.size ≤ b → A b := fun b hb => hA b (Nat.le_trans hk13.size hb)
  refine C_at (fun _ _ => rfl) ?_ ha14
  refine C_seq ?_
  refine C_region ?_
  refine V_y (Y_assign rfl) rfl rfl rfl ?_
  refine V_to (fun _ _ => rfl) ?_
  obtain rfl := Option.some.inj hm
  refine C_ret fun a ha => ?_
  try simp only [↓inBlock_ret, ↓then_ret]
  exact ret1 ha Try.results58 rfl ⟨rfl, hK⟩

set_option maxRecDepth 4000 in
theorem slices_ContainsFunc_Lknow_Vote_know_Vote_c (w : World) {A : Nat → Prop} (hA : ∀ b, w.heap.size ≤ b → A b) (s : (List know_Vote)) (v_s : Value) (h_s : Sl A w v_s s) (f : know_Vote → Option Bool) (f_f : FuncId) (f_a f_c : Array Value) (f_call : ∀ (args : Array Value) (w : World), (callFunc f_f args).run Try.prog w = .ok (.enter f_f args) w) (f_spec : ∀ w1, Kp w w1 → ∀ (y0 : know_Vote) (r : Bool), f y0 = some r → Ret Try.prog f_f (f_a ++ #[.agg #[.int .i64 y0.id, .int .i64 y0.at_, .bool y0.good]] ++ f_c) w1 fun v w' => v = .bool r ∧ Kp w1 w') {r : Bool} (hm : slices_ContainsFunc_Lknow_Vote_know_Vote s f = some r) : Ret Try.prog 14 #[v_s, .func (.func f_f) f_a f_c] w fun v w' => v = .bool r ∧ Kp w w' := by
  unfold slices_ContainsFunc_Lknow_Vote_know_Vote at hm
  refine enter Try.func14 rfl Try.ntmps14 rfl ?_
  have hK := Kp.refl w
  refine C_seq ?_
  refine C_region ?_
  refine V_y (Y_assign rfl) rfl rfl rfl ?_
  refine V_to (fun _ _ => rfl) ?_
  refine C_seq ?_
  refine C_region ?_
  refine V_y (Y_move rfl) rfl rfl rfl ?_
  refine V_y (Y_move rfl) rfl rfl rfl ?_
  obtain ⟨x3, hx3, hm⟩ := Option.bind_eq_some_iff.1 hm
  refine V_call Try.call58 rfl rfl rfl rfl (slices_IndexFunc_Lknow_Vote_know_Vote_c w hA s v_s h_s f f_f f_a f_c f_call (fun w1 hk => f_spec w1 (Kp.trans hK hk)) hx3) ?_
  rintro _ w4 ⟨rfl, hk5⟩
  replace h_s := h_s.kp hk5
  replace hK := Kp.trans hK hk5
  replace hA : ∀ b, w4.heap.size ≤ b → A b := fun b hb => hA b (Nat.le_trans hk5.size hb)
  refine V_y (Y_geq rfl rfl) rfl rfl rfl ?_
  refine V_y (Y_assign rfl) rfl rfl rfl ?_
  refine V_to (fun _ _ => rfl) ?_
  obtain rfl := Option.some.inj hm
  refine C_ret fun a ha => ?_
  try simp only [↓inBlock_ret, ↓then_ret]
  exact ret1 ha Try.results14 rfl ⟨rfl, hK⟩

set_option maxRecDepth 4000 in
theorem portref2_IsMoment_c (w : World)  (m : Int) : Ret Try.prog 16 #[.int .i64 m] w fun v w' => v = .bool (portref2_IsMoment m) ∧ w = w' := by
  generalize hm : portref2_IsMoment m = r
  unfold portref2_IsMoment at hm
  refine enter Try.func16 rfl Try.ntmps16 rfl ?_
  refine C_seq ?_
  refine C_region ?_
  refine V_y (Y_assign rfl) rfl rfl rfl ?_
  refine V_to (fun _ _ => rfl) ?_
  refine C_seq ?_
  refine C_region ?_
  refine V_y (Y_move rfl) rfl rfl rfl ?_
  refine V_y (Y_geq rfl rfl) rfl rfl rfl ?_
  refine V_y (Y_move rfl) rfl rfl rfl ?_
  refine V_cut 3 (fun _ : Unit => [(8, .bool ((decide ((0 : Int) ≤ m)) && (decide (m ≤ 3000000))))]) (fun _ w' => w = w') ?_ ?_
  · simp only [List.take, List.drop]
    rcases Bool.eq_false_or_eq_true (decide ((0 : Int) ≤ m)) with hc1 | hc1
    · refine V_ge rfl rfl rfl hc1 ?_
      refine V_y (Y_move rfl) rfl rfl rfl ?_
      refine V_ge rfl rfl rfl hc1 ?_
      refine V_y (Y_leq rfl rfl) rfl rfl rfl ?_
      refine V_y (Y_pick_te rfl hc1 rfl) rfl rfl rfl ?_
      exact V_end fun a ha => ⟨(), ha.sub ⟨(by rw [hc1]; rfl), trivial⟩, rfl⟩
    · refine V_gn rfl rfl rfl hc1 rfl rfl rfl ?_
      refine V_gn rfl rfl rfl hc1 rfl rfl rfl ?_
      refine V_y (Y_pick_fe rfl hc1 rfl) rfl rfl rfl ?_
      exact V_end fun a ha => ⟨(), ha.sub ⟨(by rw [hc1]; rfl), trivial⟩, rfl⟩
  simp only [List.take, List.drop]
  rintro _ _ rfl
  refine V_y (Y_assign rfl) rfl rfl rfl ?_
  refine V_to (fun _ _ => rfl) ?_
  obtain rfl := hm
  refine C_ret fun a ha => ?_
  try simp only [↓inBlock_ret, ↓then_ret]
  exact ret1 ha Try.results16 rfl ⟨rfl, rfl⟩

set_option maxRecDepth 4000 in
theorem portref2_WorthOf_1_c (w : World) {A : Nat → Prop} (hA : ∀ b, w.heap.size ≤ b → A b) (v : know_Vote) {r : Bool} (hm : portref2_WorthOf_1 v = some r) : Ret Try.prog 15 #[.agg #[.int .i64 v.id, .int .i64 v.at_, .bool v.good]] w fun v w' => v = .bool r ∧ Kp w w' := by
  unfold portref2_WorthOf_1 at hm
  refine enter Try.func15 rfl Try.ntmps15 rfl ?_
  have hK := Kp.refl w
  refine C_seq ?_
  refine C_region ?_
  refine V_box rfl rfl ?_
  intro b1 w2 h3
  have hk4 := h3.kp
  have h5 : El (α := know_Vote) A w2 b1 0 v := h3.el hA ⟨[.int .i64 v.id], _, rfl, rfl, ⟨[.int .i64 v.at_], _, rfl, rfl, rfl⟩⟩
  replace hK := Kp.trans hK hk4
  replace hA : ∀ b, w2.heap.size ≤ b → A b := fun b hb => hA b (Nat.le_trans hk4.size hb)
  refine V_y (Y_assign rfl) rfl rfl rfl ?_
  refine V_to (fun _ _ => rfl) ?_
  refine C_seq ?_
  refine C_region ?_
  have h6 := El_know_Vote_1 h5
  refine V_y (Y_fieldAddr Try.underlying38 rfl Try.sizeOf3 (by decide) rfl) rfl rfl rfl ?_
  refine V_y (Y_load (El.int h6) Try.isAgg3 rfl) rfl rfl rfl ?_
  refine V_call Try.call16 rfl rfl rfl rfl (portref2_IsMoment_c w2 v.at_) ?_
  rintro _ _ ⟨rfl, rfl⟩
  refine V_y (Y_not rfl) rfl rfl rfl ?_
  refine V_y (Y_assign rfl) rfl rfl rfl ?_
  refine V_to (fun _ _ => rfl) ?_
  obtain rfl := Option.some.inj hm
  refine C_ret fun a ha => ?_
  try simp only [↓inBlock_ret, ↓then_ret]
  exact ret1 ha Try.results15 rfl ⟨rfl, hK⟩

set_option maxRecDepth 4000 in
theorem portref2_WorthOf_c (w : World) {A : Nat → Prop} (hA : ∀ b, w.heap.size ≤ b → A b) (l : (List know_Vote)) (v_l : Value) (h_l : Sl A w v_l l) (id : Int) (m : Int) (half : Int) {r : (Int × Int)} (hm : portref2_WorthOf l id m half = some r) : Ret Try.prog 7 #[v_l, .int .i64 id, .int .i64 m, .int .i64 half] w fun v w' => v = .tuple #[.int .i64 r.1, .int .i64 r.2] ∧ Kp w w' := by
  unfold portref2_WorthOf at hm
  refine enter Try.func7 rfl Try.ntmps7 rfl ?_
  have hK := Kp.refl w
  refine C_seq ?_
  refine C_region ?_
  refine V_y (Y_assign rfl) rfl rfl rfl ?_
  refine V_y (Y_assign rfl) rfl rfl rfl ?_
  refine V_to (fun _ _ => rfl) ?_
  refine C_seq ?_
  refine C_seq ?_
  refine C_region ?_
  refine V_y (Y_move rfl) rfl rfl rfl ?_
  refine V_y (Y_lenSl h_l rfl Try.underlying22 rfl) rfl rfl rfl ?_
  refine V_y (Y_gtr rfl rfl) rfl rfl rfl ?_
  refine V_to (fun _ _ => rfl) ?_
  refine C_cond rfl (fun hc7 => ?_) (fun hc7 => ?_)
  · rw [if_pos hc7] at hm
    refine C_seq ?_
    refine C_region ?_
    refine V_y (Y_assign rfl) rfl rfl rfl ?_
    refine V_y (Y_assign rfl) rfl rfl rfl ?_
    refine V_to (fun _ _ => rfl) ?_
    obtain rfl := Option.some.inj hm
    refine C_ret fun a ha => ?_
    try simp only [↓inBlock_ret, ↓then_ret]
    exact ret2 ha Try.results7 rfl rfl ⟨rfl, hK⟩
  · rw [if_neg (nt hc7)] at hm
    refine C_skip_to (fun _ _ => rfl) ?_
    refine C_seq ?_
    refine C_seq ?_
    refine C_region ?_
    refine V_y (Y_move rfl) rfl rfl rfl ?_
    obtain ⟨x9, hx9, hm⟩ := Option.bind_eq_some_iff.1 hm
    refine V_call Try.call14 rfl rfl rfl rfl (slices_ContainsFunc_Lknow_Vote_know_Vote_c w hA l v_l h_l (fun y15 => portref2_WorthOf_1 y15) 15 #[] #[] Try.call15 (fun w13 hk14 y10 r11 h12 => (portref2_WorthOf_1_c w13 (fun b hb => hA b (Nat.le_trans hk14.size hb)) y10  h12).mono (fun _ _ h => ⟨h.1, h.2⟩)) hx9) ?_
    rintro _ w17 ⟨rfl, hk18⟩
    replace h_l := h_l.kp hk18
    replace hK := Kp.trans hK hk18
    replace hA : ∀ b, w17.heap.size ≤ b → A b := fun b hb => hA b (Nat.le_trans hk18.size hb)
    refine V_y (Y_move rfl) rfl rfl rfl ?_
    refine V_cut 4 (fun _ : Unit => [(0, v_l), (1, .int .i64 id), (2, .int .i64 m), (3, .int .i64 half), (24, .bool (x9 || (!(portref2_IsMoment m))))]) (fun _ w' => w17 = w') ?_ ?_
    · simp only [List.take, List.drop]
      rcases Bool.eq_false_or_eq_true (x9) with hc19 | hc19
      · refine V_gn rfl rfl rfl hc19 rfl rfl rfl ?_
        refine V_gn rfl rfl rfl hc19 rfl rfl rfl ?_
        refine V_gn rfl rfl rfl hc19 rfl rfl rfl ?_
        refine V_y (Y_pick_te rfl hc19 rfl) rfl rfl rfl ?_
        exact V_end fun a ha => ⟨(), ha.sub ⟨rfl, rfl, rfl, rfl, (by rw [hc19]; rfl), trivial⟩, rfl⟩
      · refine V_ge rfl rfl rfl hc19 ?_
        refine V_y (Y_move rfl) rfl rfl rfl ?_
        refine V_ge rfl rfl rfl hc19 ?_
        refine V_call Try.call16 rfl rfl rfl rfl (portref2_IsMoment_c w17 m) ?_
        rintro _ _ ⟨rfl, rfl⟩
        refine V_ge rfl rfl rfl hc19 ?_
        refine V_y (Y_not rfl) rfl rfl rfl ?_
        refine V_y (Y_pick_fe rfl hc19 rfl) rfl rfl rfl ?_
        exact V_end fun a ha => ⟨(), ha.sub ⟨rfl, rfl, rfl, rfl, (by rw [hc19]; rfl), trivial⟩, rfl⟩
    simp only [List.take, List.drop]
    rintro _ _ rfl
    refine V_y (Y_move rfl) rfl rfl rfl ?_
    refine V_cut 3 (fun _ : Unit => [(0, v_l), (1, .int .i64 id), (2, .int .i64 m), (3, .int .i64 half), (28, .bool ((x9 || (!(portref2_IsMoment m))) || (decide (half < 1))))]) (fun _ w' => w17 = w') ?_ ?_
    · simp only [List.take, List.drop]
      rcases Bool.eq_false_or_eq_true ((x9 || (!(portref2_IsMoment m)))) with hc22 | hc22
      · refine V_gn rfl rfl rfl hc22 rfl rfl rfl ?_
        refine V_gn rfl rfl rfl hc22 rfl rfl rfl ?_
        refine V_y (Y_pick_te rfl hc22 rfl) rfl rfl rfl ?_
        exact V_end fun a ha => ⟨(), ha.sub ⟨rfl, rfl, rfl, rfl, (by rw [hc22]; rfl), trivial⟩, rfl⟩
      · refine V_ge rfl rfl rfl hc22 ?_
        refine V_y (Y_move rfl) rfl rfl rfl ?_
        refine V_ge rfl rfl rfl hc22 ?_
        refine V_y (Y_lss rfl rfl) rfl rfl rfl ?_
        refine V_y (Y_pick_fe rfl hc22 rfl) rfl rfl rfl ?_
        exact V_end fun a ha => ⟨(), ha.sub ⟨rfl, rfl, rfl, rfl, (by rw [hc22]; rfl), trivial⟩, rfl⟩
    simp only [List.take, List.drop]
    rintro _ _ rfl
    refine V_y (Y_move rfl) rfl rfl rfl ?_
    refine V_cut 3 (fun _ : Unit => [(0, v_l), (1, .int .i64 id), (2, .int .i64 m), (3, .int .i64 half), (32, .bool (((x9 || (!(portref2_IsMoment m))) || (decide (half < 1))) || (decide ((3000000 : Int) < half))))]) (fun _ w' => w17 = w') ?_ ?_
    · simp only [List.take, List.drop]
      rcases Bool.eq_false_or_eq_true (((x9 || (!(portref2_IsMoment m))) || (decide (half < 1)))) with hc25 | hc25
      · refine V_gn rfl rfl rfl hc25 rfl rfl rfl ?_
        refine V_gn rfl rfl rfl hc25 rfl rfl rfl ?_
        refine V_y (Y_pick_te rfl hc25 rfl) rfl rfl rfl ?_
        exact V_end fun a ha => ⟨(), ha.sub ⟨rfl, rfl, rfl, rfl, (by rw [hc25]; rfl), trivial⟩, rfl⟩
      · refine V_ge rfl rfl rfl hc25 ?_
        refine V_y (Y_move rfl) rfl rfl rfl ?_
        refine V_ge rfl rfl rfl hc25 ?_
        refine V_y (Y_gtr rfl rfl) rfl rfl rfl ?_
        refine V_y (Y_pick_fe rfl hc25 rfl) rfl rfl rfl ?_
        exact V_end fun a ha => ⟨(), ha.sub ⟨rfl, rfl, rfl, rfl, (by rw [hc25]; rfl), trivial⟩, rfl⟩
    simp only [List.take, List.drop]
    rintro _ _ rfl
    refine V_to (fun _ _ => rfl) ?_
    refine C_cond rfl (fun hc28 => ?_) (fun hc28 => ?_)
    · rw [if_pos hc28] at hm
      refine C_seq ?_
      refine C_region ?_
      refine V_y (Y_assign rfl) rfl rfl rfl ?_
      refine V_y (Y_assign rfl) rfl rfl rfl ?_
      refine V_to (fun _ _ => rfl) ?_
      obtain rfl := Option.some.inj hm
      refine C_ret fun a ha => ?_
      try simp only [↓inBlock_ret, ↓then_ret]
      exact ret2 ha Try.results7 rfl rfl ⟨rfl, hK⟩
    · rw [if_neg (nt hc28)] at hm
      refine C_skip_to (fun _ _ => rfl) ?_
      refine C_seq ?_
      refine C_region ?_
      refine V_y (Y_assign rfl) rfl rfl rfl ?_
      refine V_to (fun _ _ => rfl) ?_
      refine C_seq ?_
      refine C_seq ?_
      refine C_region ?_
      refine V_y (Y_move rfl) rfl rfl rfl ?_
      refine V_y (Y_lenSl h_l rfl Try.underlying22 rfl) rfl rfl rfl ?_
      refine V_y (Y_move rfl) rfl rfl rfl ?_
      refine V_to (fun _ _ => rfl) ?_
      obtain ⟨o33, ho33, hm⟩ := Option.bind_eq_some_iff.1 hm
      refine C_cutG (ι := Int) (fun (s34 : Int) => [(10, .int .i64 s34)]) (fun (s34 : Int) => fun w' => o33 = .fin s34 ∧ Kp w17 w') ?_ ?_
      · refine C_block ?_
        refine C_range ho33 (fun k37 s41 a w' => ∃ i : Unit, Has 82 a ([(1, .int .i64 id), (2, .int .i64 m), (3, .int .i64 half), (10, .int .i64 s41), (33, v_l), (34, .int .i64 (l.length : Int)), (35, .int .i64 (k37 : Int))]) ∧ Kp w17 w') (fun a ha => ⟨(), ha.sub ⟨rfl, rfl, rfl, rfl, rfl, rfl, rfl, trivial⟩, Kp.refl _⟩) ?_
        rintro K k37 s41 a w42 ⟨_, ha115, hr36⟩ hle46 K49 h48
        refine C_of ?_ ha115
        replace h_l := h_l.kp hr36
        replace hK := Kp.trans hK hr36
        replace hA : ∀ b, w42.heap.size ≤ b → A b := fun b hb => hA b (Nat.le_trans hr36.size hb)
        refine C_seq (C_region (V_y (Y_lss rfl rfl) rfl rfl rfl (V_to (fun _ _ => rfl) ?_)))
        refine C_seq ?_
        refine C_cond rfl (fun hc50 => ?_) (fun hc50 => ?_)
        · have hlt47 := lt_of_dec hc50
          obtain ⟨x43, h44, h45⟩ := K49 hlt47
          refine C_skip_to (fun _ _ => rfl) ?_
          refine C_seq ?_
          obtain ⟨s52, ho51, h44⟩ := Option.bind_eq_some_iff.1 h44
          refine C_cutG (ι := Unit) (fun (_ : Unit) => [(1, .int .i64 id), (2, .int .i64 m), (3, .int .i64 half), (10, .int .i64 s52), (33, v_l), (34, .int .i64 (l.length : Int)), (35, .int .i64 (k37 : Int))]) (fun (_ : Unit) => fun w' => Kp w42 w') ?_ ?_
          · have hr53 := Kp.refl w42
            refine C_block ?_
            refine C_seq ?_
            refine C_region ?_
            obtain ⟨x57, hx57, ho51⟩ := Option.bind_eq_some_iff.1 ho51
            refine V_indexAddr h_l hx57 Try.underlying22 Try.sizeOf38 rfl rfl rfl ?_
            intro b58 o59 h60
            obtain ⟨h61, _⟩ := El_know_Vote h60
            refine V_y (Y_loadA h61 Try.isAgg38 Try.sizeOf38 rfl) rfl rfl rfl ?_
            refine V_alloc Try.zeroValue38 rfl ?_
            intro b62 w63 h64
            refine V_storeNew h64 Try.sizeOf38 rfl rfl rfl rfl (by simp [Value.cells, Value.oneCell']) ?_
            intro w65 h66
            have hk67 := h66.kp
            have h68 : El (α := know_Vote) A w65 b62 0 x57 := h66.el hA ⟨[.int .i64 x57.id], _, rfl, rfl, ⟨[.int .i64 x57.at_], _, rfl, rfl, rfl⟩⟩
            replace h_l := h_l.kp hk67
            replace h60 := h60.kp hk67
            replace hK := Kp.trans hK hk67
            replace hr36 := Kp.trans hr36 hk67
            replace hr53 := Kp.trans hr53 hk67
            replace hA : ∀ b, w65.heap.size ≤ b → A b := fun b hb => hA b (Nat.le_trans hk67.size hb)
            refine V_to (fun _ _ => rfl) ?_
            refine C_seq ?_
            refine C_seq ?_
            refine C_region ?_
            have h69 := El_know_Vote_0 h68
            refine V_y (Y_fieldAddr Try.underlying38 rfl Try.sizeOf3 (by decide) rfl) rfl rfl rfl ?_
            refine V_y (Y_load (El.int h69) Try.isAgg3 rfl) rfl rfl rfl ?_
            refine V_y (Y_move rfl) rfl rfl rfl ?_
            refine V_y (Y_neq rfl rfl) rfl rfl rfl ?_
            refine V_y (Y_move rfl) rfl rfl rfl ?_
            refine V_cut 5 (fun _ : Unit => [(1, .int .i64 id), (2, .int .i64 m), (3, .int .i64 half), (10, .int .i64 s41), (12, .pointer (some ⟨b62, 0, none⟩)), (33, v_l), (34, .int .i64 (l.length : Int)), (35, .int .i64 (k37 : Int)), (48, .bool ((x57.id != id) || (decide (m < x57.at_))))]) (fun _ w' => w65 = w') ?_ ?_
            · simp only [List.take, List.drop]
              rcases Bool.eq_false_or_eq_true (x57.id != id) with hc70 | hc70
              · refine V_gn rfl rfl rfl hc70 rfl rfl rfl ?_
                refine V_gn rfl rfl rfl hc70 rfl rfl rfl ?_
                refine V_gn rfl rfl rfl hc70 rfl rfl rfl ?_
                refine V_gn rfl rfl rfl hc70 rfl rfl rfl ?_
                refine V_y (Y_pick_te rfl hc70 rfl) rfl rfl rfl ?_
                exact V_end fun a ha => ⟨(), ha.sub ⟨rfl, rfl, rfl, rfl, rfl, rfl, rfl, rfl, (by rw [hc70]; rfl), trivial⟩, rfl⟩
              · refine V_ge rfl rfl rfl hc70 ?_
                have h73 := El_know_Vote_1 h68
                refine V_y (Y_fieldAddr Try.underlying38 rfl Try.sizeOf3 (by decide) rfl) rfl rfl rfl ?_
                refine V_ge rfl rfl rfl hc70 ?_
                refine V_y (Y_load (El.int h73) Try.isAgg3 rfl) rfl rfl rfl ?_
                refine V_ge rfl rfl rfl hc70 ?_
                refine V_y (Y_move rfl) rfl rfl rfl ?_
                refine V_ge rfl rfl rfl hc70 ?_
                refine V_y (Y_gtr rfl rfl) rfl rfl rfl ?_
                refine V_y (Y_pick_fe rfl hc70 rfl) rfl rfl rfl ?_
                exact V_end fun a ha => ⟨(), ha.sub ⟨rfl, rfl, rfl, rfl, rfl, rfl, rfl, rfl, (by rw [hc70]; rfl), trivial⟩, rfl⟩
            simp only [List.take, List.drop]
            rintro _ _ rfl
            refine V_to (fun _ _ => rfl) ?_
            refine C_cond rfl (fun hc74 => ?_) (fun hc74 => ?_)
            · rw [if_pos hc74] at ho51
              obtain rfl := Option.some.inj ho51
              exact C_exit fun a ha => ⟨(), ha.sub ⟨rfl, rfl, rfl, rfl, rfl, rfl, rfl, trivial⟩, hr53⟩
            · rw [if_neg (nt hc74)] at ho51
              refine C_skip_to (fun _ _ => rfl) ?_
              refine C_seq ?_
              refine C_region ?_
              refine V_y (Y_assign rfl) rfl rfl rfl ?_
              refine V_to (fun _ _ => rfl) ?_
              refine C_seq ?_
              refine C_seq ?_
              refine C_region ?_
              refine V_y (Y_move rfl) rfl rfl rfl ?_
              have h75 := El_know_Vote_1 h68
              refine V_y (Y_fieldAddr Try.underlying38 rfl Try.sizeOf3 (by decide) rfl) rfl rfl rfl ?_
              refine V_y (Y_load (El.int h75) Try.isAgg3 rfl) rfl rfl rfl ?_
              refine V_y (Y_subI rfl rfl) rfl rfl rfl ?_
              refine V_y (Y_move rfl) rfl rfl rfl ?_
              obtain ⟨x76, hx76, ho51⟩ := Option.bind_eq_some_iff.1 ho51
              refine V_y (Y_quo hx76 rfl rfl) rfl rfl rfl ?_
              refine V_y (Y_assign rfl) rfl rfl rfl ?_
              refine V_to (fun _ _ => rfl) ?_
              obtain ⟨o77, ho77, ho51⟩ := Option.bind_eq_some_iff.1 ho51
              refine C_cutG (ι := (Int × Int)) (fun (s78 : (Int × Int)) => [(1, .int .i64 id), (2, .int .i64 m), (3, .int .i64 half), (10, .int .i64 s41), (12, .pointer (some ⟨b62, 0, none⟩)), (13, .int .i64 s78.1), (33, v_l), (34, .int .i64 (l.length : Int)), (35, .int .i64 (k37 : Int))]) (fun (s78 : (Int × Int)) => fun w' => o77 = .fin s78 ∧ w65 = w') ?_ ?_
              · refine C_block ?_
                refine C_while ho77 (fun s85 a w' => ∃ i : Unit, Has 82 a ([(1, .int .i64 id), (2, .int .i64 m), (3, .int .i64 half), (10, .int .i64 s41), (12, .pointer (some ⟨b62, 0, none⟩)), (13, .int .i64 s85.1), (14, .int .i64 s85.2), (33, v_l), (34, .int .i64 (l.length : Int)), (35, .int .i64 (k37 : Int))]) ∧ w65 = w') (fun a ha => ⟨(), ha.sub ⟨rfl, rfl, rfl, rfl, rfl, rfl, rfl, rfl, rfl, rfl, trivial⟩, rfl⟩) ?_
                rintro K s85 a _ ⟨_, ha98, rfl⟩ K93
                refine C_of ?_ ha98
                obtain ⟨x87, h88, h89⟩ := K93
                refine C_seq ?_
                refine C_seq ?_
                refine C_region ?_
                refine V_y (Y_move rfl) rfl rfl rfl ?_
                refine V_y (Y_gtr rfl rfl) rfl rfl rfl ?_
                refine V_y (Y_move rfl) rfl rfl rfl ?_
                refine V_cut 3 (fun _ : Unit => [(1, .int .i64 id), (2, .int .i64 m), (3, .int .i64 half), (10, .int .i64 s41), (12, .pointer (some ⟨b62, 0, none⟩)), (13, .int .i64 s85.1), (14, .int .i64 s85.2), (33, v_l), (34, .int .i64 (l.length : Int)), (35, .int .i64 (k37 : Int)), (60, .bool ((decide ((0 : Int) < s85.2)) && (decide ((0 : Int) < s85.1))))]) (fun _ w' => w65 = w') ?_ ?_
                · simp only [List.take, List.drop]
                  rcases Bool.eq_false_or_eq_true (decide ((0 : Int) < s85.2)) with hc94 | hc94
                  · refine V_ge rfl rfl rfl hc94 ?_
                    refine V_y (Y_move rfl) rfl rfl rfl ?_
                    refine V_ge rfl rfl rfl hc94 ?_
                    refine V_y (Y_gtr rfl rfl) rfl rfl rfl ?_
                    refine V_y (Y_pick_te rfl hc94 rfl) rfl rfl rfl ?_
                    exact V_end fun a ha => ⟨(), ha.sub ⟨rfl, rfl, rfl, rfl, rfl, rfl, rfl, rfl, rfl, rfl, (by rw [hc94]; rfl), trivial⟩, rfl⟩
                  · refine V_gn rfl rfl rfl hc94 rfl rfl rfl ?_
                    refine V_gn rfl rfl rfl hc94 rfl rfl rfl ?_
                    refine V_y (Y_pick_fe rfl hc94 rfl) rfl rfl rfl ?_
                    exact V_end fun a ha => ⟨(), ha.sub ⟨rfl, rfl, rfl, rfl, rfl, rfl, rfl, rfl, rfl, rfl, (by rw [hc94]; rfl), trivial⟩, rfl⟩
                simp only [List.take, List.drop]
                rintro _ _ rfl
                refine V_to (fun _ _ => rfl) ?_
                refine C_cond rfl (fun hc97 => ?_) (fun hc97 => ?_)
                · rw [if_pos hc97] at h88
                  refine C_skip_to (fun _ _ => rfl) ?_
                  refine C_seq ?_
                  refine C_block ?_
                  refine C_region ?_
                  refine V_y (Y_move rfl) rfl rfl rfl ?_
                  refine V_y (Y_quo (by rw [quo, if_neg (by decide)]) rfl rfl) rfl rfl rfl ?_
                  refine V_y (Y_assign rfl) rfl rfl rfl ?_
                  refine V_to (fun _ _ => rfl) ?_
                  refine C_region ?_
                  refine V_y (Y_move rfl) rfl rfl rfl ?_
                  refine V_y (Y_subI rfl rfl) rfl rfl rfl ?_
                  refine V_y (Y_assign rfl) rfl rfl rfl ?_
                  obtain rfl := Option.some.inj h88
                  exact V_end fun a ha => ⟨(w64 (Int.tdiv s85.1 2), w64 (s85.2 - 1)), h89, ⟨(), ha.sub ⟨rfl, rfl, rfl, rfl, rfl, rfl, rfl, rfl, rfl, rfl, trivial⟩, rfl⟩⟩
                · rw [if_neg (nt hc97)] at h88
                  obtain rfl := Option.some.inj h88
                  exact C_exit fun a ha => ⟨(s85.1, s85.2), ha.sub ⟨rfl, rfl, rfl, rfl, rfl, rfl, rfl, rfl, rfl, trivial⟩, ⟨h89.symm, rfl⟩⟩
              rintro s78 _ ⟨rfl, rfl⟩ a ha84
              rw [Lp.andThen_fin] at ho51
              refine C_at (fun _ _ => rfl) ?_ ha84
              refine C_seq ?_
              refine C_seq ?_
              refine C_region ?_
              refine V_y (Y_move rfl) rfl rfl rfl ?_
              have h99 := El_know_Vote_1 h68
              refine V_y (Y_fieldAddr Try.underlying38 rfl Try.sizeOf3 (by decide) rfl) rfl rfl rfl ?_
              refine V_y (Y_load (El.int h99) Try.isAgg3 rfl) rfl rfl rfl ?_
              refine V_y (Y_subI rfl rfl) rfl rfl rfl ?_
              refine V_y (Y_move rfl) rfl rfl rfl ?_
              refine V_y (Y_quo hx76 rfl rfl) rfl rfl rfl ?_
              refine V_y (Y_geq rfl rfl) rfl rfl rfl ?_
              refine V_to (fun _ _ => rfl) ?_
              obtain ⟨s101, ho100, ho51⟩ := Option.bind_eq_some_iff.1 ho51
              refine C_cutG (ι := Unit) (fun (_ : Unit) => [(1, .int .i64 id), (2, .int .i64 m), (3, .int .i64 half), (10, .int .i64 s41), (12, .pointer (some ⟨b62, 0, none⟩)), (13, .int .i64 s101), (33, v_l), (34, .int .i64 (l.length : Int)), (35, .int .i64 (k37 : Int))]) (fun (_ : Unit) => fun w' => w65 = w') ?_ ?_
              · refine C_cond rfl (fun hc106 => ?_) (fun hc106 => ?_)
                · rw [if_pos hc106] at ho100
                  refine C_region ?_
                  refine V_y (Y_assign rfl) rfl rfl rfl ?_
                  obtain rfl := Option.some.inj ho100
                  exact V_end fun a ha => ⟨(), ha.sub ⟨rfl, rfl, rfl, rfl, rfl, rfl, rfl, rfl, rfl, trivial⟩, rfl⟩
                · rw [if_neg (nt hc106)] at ho100
                  obtain rfl := Option.some.inj ho100
                  exact C_skip fun a ha => ⟨(), ha.sub ⟨rfl, rfl, rfl, rfl, rfl, rfl, rfl, rfl, rfl, trivial⟩, rfl⟩
              rintro _ _ rfl a ha105
              refine C_at (fun _ _ => rfl) ?_ ha105
              refine C_seq ?_
              refine C_seq ?_
              refine C_region ?_
              have h107 := El_know_Vote_2 h68
              refine V_y (Y_fieldAddr Try.underlying38 rfl Try.sizeOf4 (by decide) rfl) rfl rfl rfl ?_
              refine V_y (Y_load (El.bool h107) Try.isAgg4 rfl) rfl rfl rfl ?_
              refine V_y (Y_not rfl) rfl rfl rfl ?_
              refine V_to (fun _ _ => rfl) ?_
              obtain ⟨s109, ho108, ho51⟩ := Option.bind_eq_some_iff.1 ho51
              refine C_cutG (ι := Unit) (fun (_ : Unit) => [(1, .int .i64 id), (2, .int .i64 m), (3, .int .i64 half), (10, .int .i64 s41), (13, .int .i64 s109), (33, v_l), (34, .int .i64 (l.length : Int)), (35, .int .i64 (k37 : Int))]) (fun (_ : Unit) => fun w' => w65 = w') ?_ ?_
              · refine C_cond rfl (fun hc114 => ?_) (fun hc114 => ?_)
                · rw [if_pos hc114] at ho108
                  refine C_region ?_
                  refine V_y (Y_move rfl) rfl rfl rfl ?_
                  refine V_y (Y_negI rfl) rfl rfl rfl ?_
                  refine V_y (Y_assign rfl) rfl rfl rfl ?_
                  obtain rfl := Option.some.inj ho108
                  exact V_end fun a ha => ⟨(), ha.sub ⟨rfl, rfl, rfl, rfl, rfl, rfl, rfl, rfl, trivial⟩, rfl⟩
                · rw [if_neg (nt hc114)] at ho108
                  obtain rfl := Option.some.inj ho108
                  exact C_skip fun a ha => ⟨(), ha.sub ⟨rfl, rfl, rfl, rfl, rfl, rfl, rfl, rfl, trivial⟩, rfl⟩
              rintro _ _ rfl a ha113
              refine C_at (fun _ _ => rfl) ?_ ha113
              refine C_region ?_
              refine V_y (Y_move rfl) rfl rfl rfl ?_
              refine V_y (Y_move rfl) rfl rfl rfl ?_
              refine V_y (Y_addI rfl rfl) rfl rfl rfl ?_
              refine V_y (Y_assign rfl) rfl rfl rfl ?_
              obtain rfl := Option.some.inj ho51
              exact V_end fun a ha => ⟨(), ha.sub ⟨rfl, rfl, rfl, rfl, rfl, rfl, rfl, trivial⟩, hr53⟩
          rintro _ w54 hk55 a ha56
          replace h_l := h_l.kp hk55
          replace hK := Kp.trans hK hk55
          replace hr36 := Kp.trans hr36 hk55
          replace hA : ∀ b, w54.heap.size ≤ b → A b := fun b hb => hA b (Nat.le_trans hk55.size hb)
          refine C_at (fun _ _ => rfl) ?_ ha56
          refine C_region ?_
          refine V_y (Y_addI rfl rfl) rfl rfl rfl ?_
          refine V_y (Y_move rfl) rfl rfl rfl ?_
          obtain rfl := Option.some.inj h44
          exact V_end fun a ha => ⟨s52, hlt47, h45, ⟨(), ha.sub ⟨rfl, rfl, rfl, rfl, rfl, rfl, (congrArg (fun z => some (Value.int .i64 z)) (w64_succ hlt47 (Sl.le h_l))), trivial⟩, hr36⟩⟩
        · exact C_exit fun a ha => ⟨s41, ha.sub ⟨rfl, trivial⟩, ⟨(h48 (eq_of_dec hle46 hc50)).symm, hr36⟩⟩
      rintro s34 w38 ⟨rfl, hk39⟩ a ha40
      rw [Lp.andThen_fin] at hm
      replace hK := Kp.trans hK hk39
      replace hA : ∀ b, w38.heap.size ≤ b → A b := fun b hb => hA b (Nat.le_trans hk39.size hb)
      refine C_at (fun _ _ => rfl) ?_ ha40
      refine C_seq ?_
      refine C_region ?_
      refine V_y (Y_move rfl) rfl rfl rfl ?_
      refine V_y (Y_assign rfl) rfl rfl rfl ?_
      refine V_y (Y_assign rfl) rfl rfl rfl ?_
      refine V_to (fun _ _ => rfl) ?_
      obtain rfl := Option.some.inj hm
      refine C_ret fun a ha => ?_
      try simp only [↓inBlock_ret, ↓then_ret]
      exact ret2 ha Try.results7 rfl rfl ⟨rfl, hK⟩

set_option maxRecDepth 4000 in
theorem portlaw2_KnowWorth_c (w : World) {A : Nat → Prop} (hA : ∀ b, w.heap.size ≤ b → A b) (l : (List know_Vote)) (v_l : Value) (h_l : Sl A w v_l l) (id : Int) (m : Int) (half : Int) {r : Bool} (hm : portlaw2_KnowWorth l id m half = some r) : Ret Try.prog 3 #[v_l, .int .i64 id, .int .i64 m, .int .i64 half] w fun v w' => v = .bool r ∧ Kp w w' := by
  unfold portlaw2_KnowWorth at hm
  refine enter Try.func3 rfl Try.ntmps3 rfl ?_
  have hK := Kp.refl w
  refine C_seq ?_
  refine C_region ?_
  refine V_y (Y_assign rfl) rfl rfl rfl ?_
  refine V_to (fun _ _ => rfl) ?_
  refine C_seq ?_
  refine C_region ?_
  refine V_y (Y_move rfl) rfl rfl rfl ?_
  refine V_y (Y_move rfl) rfl rfl rfl ?_
  refine V_y (Y_move rfl) rfl rfl rfl ?_
  refine V_y (Y_move rfl) rfl rfl rfl ?_
  obtain ⟨x3, hx3, hm⟩ := Option.bind_eq_some_iff.1 hm
  refine V_call Try.call6 rfl rfl rfl rfl (know_Worth_c w hA l v_l h_l id m half hx3) ?_
  rintro _ w4 ⟨rfl, hk5⟩
  replace h_l := h_l.kp hk5
  replace hK := Kp.trans hK hk5
  replace hA : ∀ b, w4.heap.size ≤ b → A b := fun b hb => hA b (Nat.le_trans hk5.size hb)
  refine V_y (Y_move rfl) rfl rfl rfl ?_
  refine V_y (Y_extract rfl rfl) rfl rfl rfl ?_
  refine V_y (Y_extract rfl rfl) rfl rfl rfl ?_
  refine V_y (Y_assign rfl) rfl rfl rfl ?_
  refine V_y (Y_assign rfl) rfl rfl rfl ?_
  refine V_to (fun _ _ => rfl) ?_
  refine C_seq ?_
  refine C_region ?_
  refine V_y (Y_move rfl) rfl rfl rfl ?_
  refine V_y (Y_move rfl) rfl rfl rfl ?_
  refine V_y (Y_move rfl) rfl rfl rfl ?_
  refine V_y (Y_move rfl) rfl rfl rfl ?_
  obtain ⟨x6, hx6, hm⟩ := Option.bind_eq_some_iff.1 hm
  refine V_call Try.call7 rfl rfl rfl rfl (portref2_WorthOf_c w4 hA l v_l h_l id m half hx6) ?_
  rintro _ w7 ⟨rfl, hk8⟩
  replace h_l := h_l.kp hk8
  replace hK := Kp.trans hK hk8
  replace hA : ∀ b, w7.heap.size ≤ b → A b := fun b hb => hA b (Nat.le_trans hk8.size hb)
  refine V_y (Y_move rfl) rfl rfl rfl ?_
  refine V_y (Y_extract rfl rfl) rfl rfl rfl ?_
  refine V_y (Y_extract rfl rfl) rfl rfl rfl ?_
  refine V_y (Y_assign rfl) rfl rfl rfl ?_
  refine V_y (Y_assign rfl) rfl rfl rfl ?_
  refine V_to (fun _ _ => rfl) ?_
  refine C_seq ?_
  refine C_region ?_
  refine V_y (Y_move rfl) rfl rfl rfl ?_
  refine V_y (Y_move rfl) rfl rfl rfl ?_
  refine V_y (Y_eql rfl rfl) rfl rfl rfl ?_
  refine V_y (Y_move rfl) rfl rfl rfl ?_
  refine V_cut 4 (fun _ : Unit => [(36, .bool ((x3.1 == x6.1) && (x3.2 == x6.2)))]) (fun _ w' => w7 = w') ?_ ?_
  · simp only [List.take, List.drop]
    rcases Bool.eq_false_or_eq_true (x3.1 == x6.1) with hc9 | hc9
    · refine V_ge rfl rfl rfl hc9 ?_
      refine V_y (Y_move rfl) rfl rfl rfl ?_
      refine V_ge rfl rfl rfl hc9 ?_
      refine V_y (Y_move rfl) rfl rfl rfl ?_
      refine V_ge rfl rfl rfl hc9 ?_
      refine V_y (Y_eql rfl rfl) rfl rfl rfl ?_
      refine V_y (Y_pick_te rfl hc9 rfl) rfl rfl rfl ?_
      exact V_end fun a ha => ⟨(), ha.sub ⟨(by rw [hc9]; rfl), trivial⟩, rfl⟩
    · refine V_gn rfl rfl rfl hc9 rfl rfl rfl ?_
      refine V_gn rfl rfl rfl hc9 rfl rfl rfl ?_
      refine V_gn rfl rfl rfl hc9 rfl rfl rfl ?_
      refine V_y (Y_pick_fe rfl hc9 rfl) rfl rfl rfl ?_
      exact V_end fun a ha => ⟨(), ha.sub ⟨(by rw [hc9]; rfl), trivial⟩, rfl⟩
  simp only [List.take, List.drop]
  rintro _ _ rfl
  refine V_y (Y_assign rfl) rfl rfl rfl ?_
  refine V_to (fun _ _ => rfl) ?_
  obtain rfl := Option.some.inj hm
  refine C_ret fun a ha => ?_
  try simp only [↓inBlock_ret, ↓then_ret]
  exact ret1 ha Try.results3 rfl ⟨rfl, hK⟩

end Go.Proofs.Ytlimocfkknfdgaa.W
