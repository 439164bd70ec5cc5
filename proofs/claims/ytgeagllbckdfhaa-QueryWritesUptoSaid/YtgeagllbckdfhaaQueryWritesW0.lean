/-
  Written by program (gen.py) from the IR of the dump: each function computes its model.
-/
import Derived.Test.YtgeagllbckdfhaaProg
import Derived.Test.YtgeagllbckdfhaaGe
import Derived.Test.YtgeagllbckdfhaaQueryWritesM
import Derived.KernelRfl
import Derived.Shelf.Strings.OnBuilder
import Derived.Test.YtgeagllbckdfhaaGi
import Derived.Test.YtgeagllbckdfhaaHc
import Derived.Test.YtgeagllbckdfhaaGj
namespace Go.Proofs.Ytgeagllbckdfhaa.W
open Go Go.RowKit Go.Pu Go.Gw Go.Proofs Go.Proofs.Ytgeagllbckdfhaa.M
set_option linter.unusedVariables false
set_option linter.unusedSimpArgs false

theorem Try_info9 : Try.prog.info? 9 = some Try.t9 := by kernel_rfl
theorem Try_mixed : Try.prog.follows .mixedOrders = true := by kernel_rfl

instance : GoT know_Part := GoT.of (β := Int × Bool × (List ByteArray)) fun x => (x.kind, x.not, x.words)

theorem El_know_Part_ {A : Nat → Prop} {w : World} {b off : Nat} {x : know_Part} (h : El A w b off x) : El (α := Int × Bool × (List ByteArray)) A w b off (x.kind, x.not, x.words) := h

theorem El_know_Part_0 {A : Nat → Prop} {w : World} {b off : Nat} {x : know_Part} (h : El A w b off x) : El A w b (off + 0) x.kind := El.fst (El_know_Part_ h)

theorem El_know_Part_1 {A : Nat → Prop} {w : World} {b off : Nat} {x : know_Part} (h : El A w b off x) : El A w b (off + 1) x.not := El.fst (El.snd (El_know_Part_ h))

theorem El_know_Part_2 {A : Nat → Prop} {w : World} {b off : Nat} {x : know_Part} (h : El A w b off x) : El A w b (off + 2) x.words := El.snd (El.snd (El_know_Part_ h))

theorem El_know_Part {A : Nat → Prop} {w : World} {b off : Nat} {x : know_Part} (h : El A w b off x) : ∃ v1, At w b off [.int .i64 x.kind, .bool x.not, v1] ∧ Sl A w v1 x.words := by
  obtain ⟨h1, h2, cs, h3, h4⟩ := h
  obtain ⟨_, _, rfl, rfl, ⟨_, _, rfl, rfl, ⟨u1, rfl, g1⟩⟩⟩ := h3
  exact ⟨u1, h4, g1⟩

instance : GoT know_Query := GoT.of (β := (List know_Part)) fun x => (x.parts)

theorem El_know_Query_ {A : Nat → Prop} {w : World} {b off : Nat} {x : know_Query} (h : El A w b off x) : El (α := (List know_Part)) A w b off (x.parts) := h

theorem El_know_Query_0 {A : Nat → Prop} {w : World} {b off : Nat} {x : know_Query} (h : El A w b off x) : El A w b (off + 0) x.parts := (El_know_Query_ h)

theorem El_know_Query {A : Nat → Prop} {w : World} {b off : Nat} {x : know_Query} (h : El A w b off x) : ∃ v1, At w b off [v1] ∧ Sl A w v1 x.parts := by
  obtain ⟨h1, h2, cs, h3, h4⟩ := h
  obtain ⟨u1, rfl, g1⟩ := h3
  exact ⟨u1, h4, g1⟩

set_option maxRecDepth 4000 in
set_option maxHeartbeats 4000000 in
theorem know_within_c (w : World) (n : Int) (low : Int) (high : Int) : Ret Try.prog 49 #[.int .i64 n, .int .i64 low, .int .i64 high] w fun v w' => v = .bool (know_within n low high) ∧ w = w' := by
  generalize hm : know_within n low high = r
  unfold know_within at hm
  refine enter Try.func49 rfl Try.ntmps49 rfl ?_
  refine C_seq ?_
  refine C_region ?_
  refine V_y (Y_assign rfl) rfl rfl rfl ?_
  refine V_to (fun _ _ => rfl) ?_
  refine C_seq ?_
  refine C_region ?_
  refine V_y (Y_move rfl) rfl rfl rfl ?_
  refine V_y (Y_move rfl) rfl rfl rfl ?_
  refine V_y (Y_geq rfl rfl) rfl rfl rfl ?_
  refine V_y (Y_move rfl) rfl rfl rfl ?_
  refine V_cut 4 (fun _ : Unit => [(14, .bool ((decide (low ≤ n)) && (decide (n ≤ high))))]) (fun _ w' => w = w') ?_ ?_
  · simp only [List.take, List.drop]
    rcases Bool.eq_false_or_eq_true (decide (low ≤ n)) with hc1 | hc1
    · refine V_ge rfl rfl rfl hc1 ?_
      refine V_y (Y_move rfl) rfl rfl rfl ?_
      refine V_ge rfl rfl rfl hc1 ?_
      refine V_y (Y_move rfl) rfl rfl rfl ?_
      refine V_ge rfl rfl rfl hc1 ?_
      refine V_y (Y_leq rfl rfl) rfl rfl rfl ?_
      refine V_y (Y_pick_te rfl hc1 rfl) rfl rfl rfl ?_
      exact V_end fun a ha => ⟨(), ha.sub ⟨(by rw [hc1]; rfl), trivial⟩, rfl⟩
    · refine V_gn rfl rfl rfl hc1 rfl rfl rfl ?_
      refine V_gn rfl rfl rfl hc1 rfl rfl rfl ?_
      refine V_gn rfl rfl rfl hc1 rfl rfl rfl ?_
      refine V_y (Y_pick_fe rfl hc1 rfl) rfl rfl rfl ?_
      exact V_end fun a ha => ⟨(), ha.sub ⟨(by rw [hc1]; rfl), trivial⟩, rfl⟩
  simp only [List.take, List.drop]
  rintro _ _ rfl
  refine V_y (Y_assign rfl) rfl rfl rfl ?_
  refine V_to (fun _ _ => rfl) ?_
  obtain rfl := hm
  refine C_ret ?_
  try simp only [↓inBlock_ret, ↓then_ret]
  exact retQ rfl (Res.one Try.results49 rfl) ⟨rfl, rfl⟩

set_option maxRecDepth 4000 in
set_option maxHeartbeats 4000000 in
theorem know_digit_c (w : World) (c : Int) : Ret Try.prog 60 #[.int .u8 c] w fun v w' => v = .bool (know_digit c) ∧ w = w' := by
  generalize hm : know_digit c = r
  unfold know_digit at hm
  refine enter Try.func60 rfl Try.ntmps60 rfl ?_
  refine C_seq ?_
  refine C_region ?_
  refine V_y (Y_assign rfl) rfl rfl rfl ?_
  refine V_to (fun _ _ => rfl) ?_
  refine C_seq ?_
  refine C_region ?_
  refine V_y (Y_move rfl) rfl rfl rfl ?_
  refine V_y (Y_geq rfl rfl) rfl rfl rfl ?_
  refine V_y (Y_move rfl) rfl rfl rfl ?_
  refine V_cut 3 (fun _ : Unit => [(8, .bool ((decide ((48 : Int) ≤ c)) && (decide (c ≤ 57))))]) (fun _ w' => w = w') ?_ ?_
  · simp only [List.take, List.drop]
    rcases Bool.eq_false_or_eq_true (decide ((48 : Int) ≤ c)) with hc1 | hc1
    · refine V_ge rfl rfl rfl hc1 ?_
      refine V_y (Y_move rfl) rfl rfl rfl ?_
      refine V_ge rfl rfl rfl hc1 ?_
      refine V_y (Y_leq rfl rfl) rfl rfl rfl ?_
      refine V_y (Y_pick_te rfl hc1 rfl) rfl rfl rfl ?_
      exact V_end fun a ha => ⟨(), ha.sub ⟨(by rw [hc1]; rfl), trivial⟩, rfl⟩
    · refine V_gn rfl rfl rfl hc1 rfl rfl rfl ?_
      refine V_gn rfl rfl rfl hc1 rfl rfl rfl ?_
      refine V_y (Y_pick_fe rfl hc1 rfl) rfl rfl rfl ?_
      exact V_end fun a ha => ⟨(), ha.sub ⟨(by rw [hc1]; rfl), trivial⟩, rfl⟩
  simp only [List.take, List.drop]
  rintro _ _ rfl
  refine V_y (Y_assign rfl) rfl rfl rfl ?_
  refine V_to (fun _ _ => rfl) ?_
  obtain rfl := hm
  refine C_ret ?_
  try simp only [↓inBlock_ret, ↓then_ret]
  exact retQ rfl (Res.one Try.results60 rfl) ⟨rfl, rfl⟩

set_option maxRecDepth 4000 in
set_option maxHeartbeats 4000000 in
theorem know_letter_c (w : World) (c : Int) : Ret Try.prog 59 #[.int .u8 c] w fun v w' => v = .bool (know_letter c) ∧ w = w' := by
  generalize hm : know_letter c = r
  unfold know_letter at hm
  refine enter Try.func59 rfl Try.ntmps59 rfl ?_
  refine C_seq ?_
  refine C_region ?_
  refine V_y (Y_assign rfl) rfl rfl rfl ?_
  refine V_to (fun _ _ => rfl) ?_
  refine C_seq ?_
  refine C_region ?_
  refine V_y (Y_move rfl) rfl rfl rfl ?_
  refine V_y (Y_geq rfl rfl) rfl rfl rfl ?_
  refine V_y (Y_move rfl) rfl rfl rfl ?_
  refine V_cut 3 (fun _ : Unit => [(0, .int .u8 c), (8, .bool ((decide ((97 : Int) ≤ c)) && (decide (c ≤ 122))))]) (fun _ w' => w = w') ?_ ?_
  · simp only [List.take, List.drop]
    rcases Bool.eq_false_or_eq_true (decide ((97 : Int) ≤ c)) with hc1 | hc1
    · refine V_ge rfl rfl rfl hc1 ?_
      refine V_y (Y_move rfl) rfl rfl rfl ?_
      refine V_ge rfl rfl rfl hc1 ?_
      refine V_y (Y_leq rfl rfl) rfl rfl rfl ?_
      refine V_y (Y_pick_te rfl hc1 rfl) rfl rfl rfl ?_
      exact V_end fun a ha => ⟨(), ha.sub ⟨rfl, (by rw [hc1]; rfl), trivial⟩, rfl⟩
    · refine V_gn rfl rfl rfl hc1 rfl rfl rfl ?_
      refine V_gn rfl rfl rfl hc1 rfl rfl rfl ?_
      refine V_y (Y_pick_fe rfl hc1 rfl) rfl rfl rfl ?_
      exact V_end fun a ha => ⟨(), ha.sub ⟨rfl, (by rw [hc1]; rfl), trivial⟩, rfl⟩
  simp only [List.take, List.drop]
  rintro _ _ rfl
  refine V_y (Y_move rfl) rfl rfl rfl ?_
  refine V_cut 7 (fun _ : Unit => [(16, .bool (((decide ((97 : Int) ≤ c)) && (decide (c ≤ 122))) || ((decide ((65 : Int) ≤ c)) && (decide (c ≤ 90)))))]) (fun _ w' => w = w') ?_ ?_
  · simp only [List.take, List.drop]
    rcases Bool.eq_false_or_eq_true (((decide ((97 : Int) ≤ c)) && (decide (c ≤ 122)))) with hc3 | hc3
    · refine V_gn rfl rfl rfl hc3 rfl rfl rfl ?_
      refine V_gn rfl rfl rfl hc3 rfl rfl rfl ?_
      refine V_gn rfl rfl rfl hc3 rfl rfl rfl ?_
      refine V_gu rfl rfl rfl rfl rfl ?_
      refine V_gu rfl rfl rfl rfl rfl ?_
      refine V_gn rfl rfl rfl hc3 rfl rfl rfl ?_
      refine V_y (Y_pick_te rfl hc3 rfl) rfl rfl rfl ?_
      exact V_end fun a ha => ⟨(), ha.sub ⟨(by rw [hc3]; rfl), trivial⟩, rfl⟩
    · refine V_ge rfl rfl rfl hc3 ?_
      refine V_y (Y_move rfl) rfl rfl rfl ?_
      refine V_ge rfl rfl rfl hc3 ?_
      refine V_y (Y_geq rfl rfl) rfl rfl rfl ?_
      refine V_ge rfl rfl rfl hc3 ?_
      refine V_y (Y_move rfl) rfl rfl rfl ?_
      refine V_cut 3 (fun _ : Unit => [(9, .bool ((decide ((97 : Int) ≤ c)) && (decide (c ≤ 122)))), (15, .bool ((decide ((65 : Int) ≤ c)) && (decide (c ≤ 90))))]) (fun _ w' => w = w') ?_ ?_
      · simp only [List.take, List.drop]
        rcases Bool.eq_false_or_eq_true (decide ((65 : Int) ≤ c)) with hc5 | hc5
        · refine V_ge rfl rfl rfl hc5 ?_
          refine V_y (Y_move rfl) rfl rfl rfl ?_
          refine V_ge rfl rfl rfl hc5 ?_
          refine V_y (Y_leq rfl rfl) rfl rfl rfl ?_
          refine V_ge rfl rfl rfl hc3 ?_
          refine V_y (Y_pick_te rfl hc5 rfl) rfl rfl rfl ?_
          exact V_end fun a ha => ⟨(), ha.sub ⟨rfl, (by rw [hc5]; rfl), trivial⟩, rfl⟩
        · refine V_gn rfl rfl rfl hc5 rfl rfl rfl ?_
          refine V_gn rfl rfl rfl hc5 rfl rfl rfl ?_
          refine V_ge rfl rfl rfl hc3 ?_
          refine V_y (Y_pick_fe rfl hc5 rfl) rfl rfl rfl ?_
          exact V_end fun a ha => ⟨(), ha.sub ⟨rfl, (by rw [hc5]; rfl), trivial⟩, rfl⟩
      simp only [List.take, List.drop]
      rintro _ _ rfl
      refine V_y (Y_pick_fe rfl hc3 rfl) rfl rfl rfl ?_
      exact V_end fun a ha => ⟨(), ha.sub ⟨(by rw [hc3]; rfl), trivial⟩, rfl⟩
  simp only [List.take, List.drop]
  rintro _ _ rfl
  refine V_y (Y_assign rfl) rfl rfl rfl ?_
  refine V_to (fun _ _ => rfl) ?_
  obtain rfl := hm
  refine C_ret ?_
  try simp only [↓inBlock_ret, ↓then_ret]
  exact retQ rfl (Res.one Try.results59 rfl) ⟨rfl, rfl⟩

set_option maxRecDepth 4000 in
set_option maxHeartbeats 4000000 in
theorem know_inWord_c (w : World) (c : Int) : Ret Try.prog 52 #[.int .u8 c] w fun v w' => v = .bool (know_inWord c) ∧ w = w' := by
  generalize hm : know_inWord c = r
  unfold know_inWord at hm
  refine enter Try.func52 rfl Try.ntmps52 rfl ?_
  refine C_seq ?_
  refine C_region ?_
  refine V_y (Y_assign rfl) rfl rfl rfl ?_
  refine V_to (fun _ _ => rfl) ?_
  refine C_seq ?_
  refine C_region ?_
  refine V_y (Y_move rfl) rfl rfl rfl ?_
  refine V_call Try.call59 rfl rfl rfl rfl (know_letter_c w c) ?_
  rintro _ _ ⟨rfl, rfl⟩
  refine V_y (Y_move rfl) rfl rfl rfl ?_
  refine V_cut 3 (fun _ : Unit => [(0, .int .u8 c), (8, .bool ((know_letter c) || (know_digit c)))]) (fun _ w' => w = w') ?_ ?_
  · simp only [List.take, List.drop]
    rcases Bool.eq_false_or_eq_true ((know_letter c)) with hc1 | hc1
    · refine V_gn rfl rfl rfl hc1 rfl rfl rfl ?_
      refine V_gn rfl rfl rfl hc1 rfl rfl rfl ?_
      refine V_y (Y_pick_te rfl hc1 rfl) rfl rfl rfl ?_
      exact V_end fun a ha => ⟨(), ha.sub ⟨rfl, (by rw [hc1]; rfl), trivial⟩, rfl⟩
    · refine V_ge rfl rfl rfl hc1 ?_
      refine V_y (Y_move rfl) rfl rfl rfl ?_
      refine V_ge rfl rfl rfl hc1 ?_
      refine V_call Try.call60 rfl rfl rfl rfl (know_digit_c w c) ?_
      rintro _ _ ⟨rfl, rfl⟩
      refine V_y (Y_pick_fe rfl hc1 rfl) rfl rfl rfl ?_
      exact V_end fun a ha => ⟨(), ha.sub ⟨rfl, (by rw [hc1]; rfl), trivial⟩, rfl⟩
  simp only [List.take, List.drop]
  rintro _ _ rfl
  refine V_y (Y_move rfl) rfl rfl rfl ?_
  refine V_cut 3 (fun _ : Unit => [(12, .bool (((know_letter c) || (know_digit c)) || (decide ((128 : Int) ≤ c))))]) (fun _ w' => w = w') ?_ ?_
  · simp only [List.take, List.drop]
    rcases Bool.eq_false_or_eq_true (((know_letter c) || (know_digit c))) with hc3 | hc3
    · refine V_gn rfl rfl rfl hc3 rfl rfl rfl ?_
      refine V_gn rfl rfl rfl hc3 rfl rfl rfl ?_
      refine V_y (Y_pick_te rfl hc3 rfl) rfl rfl rfl ?_
      exact V_end fun a ha => ⟨(), ha.sub ⟨(by rw [hc3]; rfl), trivial⟩, rfl⟩
    · refine V_ge rfl rfl rfl hc3 ?_
      refine V_y (Y_move rfl) rfl rfl rfl ?_
      refine V_ge rfl rfl rfl hc3 ?_
      refine V_y (Y_geq rfl rfl) rfl rfl rfl ?_
      refine V_y (Y_pick_fe rfl hc3 rfl) rfl rfl rfl ?_
      exact V_end fun a ha => ⟨(), ha.sub ⟨(by rw [hc3]; rfl), trivial⟩, rfl⟩
  simp only [List.take, List.drop]
  rintro _ _ rfl
  refine V_y (Y_assign rfl) rfl rfl rfl ?_
  refine V_to (fun _ _ => rfl) ?_
  obtain rfl := hm
  refine C_ret ?_
  try simp only [↓inBlock_ret, ↓then_ret]
  exact retQ rfl (Res.one Try.results52 rfl) ⟨rfl, rfl⟩

set_option maxRecDepth 4000 in
set_option maxHeartbeats 4000000 in
theorem know_lower_c (w : World) {A : Nat → Prop} (hA : ∀ b, w.heap.size ≤ b → A b) (s : ByteArray) {r : ByteArray} (hm : know_lower s = some r) : Ret Try.prog 53 #[.string s] w fun v w' => v = .string r ∧ Kp w w' := by
  unfold know_lower at hm
  refine enter Try.func53 rfl Try.ntmps53 rfl ?_
  have hA0 := hA
  have hB := Nat.le_refl w.heap.size
  have hK : Tr w.heap.size A w A w := Tr.refl hA
  have hH : Hp w.heap.size A w [] := Hp.nil
  refine C_seq ?_
  refine C_region ?_
  refine V_y (Y_assign rfl) rfl rfl rfl ?_
  refine V_to (fun _ _ => rfl) ?_
  refine C_seq ?_
  refine C_region ?_
  refine V_y (Y_move rfl) rfl rfl rfl ?_
  obtain ⟨x1, hx1, hm⟩ := Option.bind_eq_some_iff.1 hm
  refine V_convU (e := 5) hH hx1 Try.underlying9 Try.underlying151 Try.underlying5 hB hA rfl rfl ?_
  intro v2 w3 A4 hH5 ht6
  replace hK := Tr.trans hK ht6
  replace hB := Nat.le_trans hB ht6.ex.size
  replace hA := ht6.new
  replace hH : Hp w.heap.size A4 w3 (obU 5 v2 x1 :: []) := hH5
  refine V_y (Y_assign rfl) rfl rfl rfl ?_
  refine V_to (fun _ _ => rfl) ?_
  refine C_seq ?_
  refine C_seq ?_
  refine C_region ?_
  refine V_y (Y_move rfl) rfl rfl rfl ?_
  refine V_y (Y_lenSl (Hp.anyU (e := 5) (v := v2) (l := x1) hH (i := 0) rfl) rfl Try.underlying151 rfl) rfl rfl rfl ?_
  refine V_y (Y_move rfl) rfl rfl rfl ?_
  refine V_to (fun _ _ => rfl) ?_
  have hn31 := Hp.leU (e := 5) (v := v2) (l := x1) hH (i := 0) rfl
  obtain ⟨o7, ho7, hm⟩ := Option.bind_eq_some_iff.1 hm
  refine C_cutG (ι := ((List UInt8) × Value × (Nat → Prop))) (fun ⟨s8, v14, A16⟩ => [(3, v14)]) (fun ⟨s8, v14, A16⟩ => fun w' => o7 = .fin s8 ∧ Hp w.heap.size A16 w' (obU 5 v14 s8 :: []) ∧ Tr w.heap.size A4 w3 A16 w') ?_ ?_
  · refine C_block ?_
    refine C_range ho7 (fun k10 s18 a w' => ∃ i : (Value × (Nat → Prop)), Has ⟨30, [], none⟩ a ([(3, i.1), (8, i.1), (9, .int .i64 (x1.length : Int)), (10, .int .i64 (k10 : Int))]) ∧ Hp w.heap.size i.2 w' (obU 5 i.1 s18 :: []) ∧ Tr w.heap.size A4 w3 i.2 w') (fun a ha => ⟨(v2, A4), ha.sub ⟨rfl, rfl, rfl, rfl, trivial⟩, ⟨hH, Tr.refl hA⟩⟩) ?_
    rintro K k10 s18 a w19 ⟨⟨v20, A22⟩, ha74, hH23, hr9⟩ hle27 K30 h29
    refine C_of ?_ ha74
    replace hK := Tr.trans hK hr9
    replace hB := Nat.le_trans hB hr9.ex.size
    replace hA := hr9.new
    replace hH : Hp w.heap.size A22 w19 (obU 5 v20 s18 :: []) := hH23
    refine C_seq (C_region (V_y (Y_lss rfl rfl) rfl rfl rfl (V_to (fun _ _ => rfl) ?_)))
    refine C_seq ?_
    refine C_cond rfl (fun hc32 => ?_) (fun hc32 => ?_)
    · have hlt28 := lt_of_dec hc32
      obtain ⟨x24, h25, h26⟩ := K30 hlt28
      refine C_skip_to (fun _ _ => rfl) ?_
      refine C_seq ?_
      obtain ⟨s34, ho33, h25⟩ := Option.bind_eq_some_iff.1 h25
      refine C_cutG (ι := (Value × (Nat → Prop))) (fun ⟨v36, A41⟩ => [(3, v36), (8, v36), (9, .int .i64 (x1.length : Int)), (10, .int .i64 (k10 : Int))]) (fun ⟨v36, A41⟩ => fun w' => Hp w.heap.size A41 w' (obU 5 v36 s34 :: []) ∧ Tr w.heap.size A22 w19 A41 w') ?_ ?_
      · have hr35 : Tr w.heap.size A22 w19 A22 w19 := Tr.refl hA
        refine C_block ?_
        refine C_seq ?_
        refine C_region ?_
        refine V_y (Y_move rfl) rfl rfl rfl ?_
        obtain ⟨x43, hx43, ho33⟩ := Option.bind_eq_some_iff.1 ho33
        refine V_indexAddrU (e := 5) (v := v20) (l := s18) hH (i := 0) rfl hx43 Try.underlying151 Try.sizeOf5 rfl rfl rfl ?_
        intro b44 o45 h46 hl47
        refine V_y (Y_load (El.u8 h46) Try.isAgg5 rfl) rfl rfl rfl ?_
        refine V_y (Y_assign rfl) rfl rfl rfl ?_
        refine V_y (Y_assign rfl) rfl rfl rfl ?_
        refine V_to (fun _ _ => rfl) ?_
        refine C_seq ?_
        refine C_region ?_
        refine V_y (Y_move rfl) rfl rfl rfl ?_
        refine V_y (Y_geq rfl rfl) rfl rfl rfl ?_
        refine V_y (Y_move rfl) rfl rfl rfl ?_
        refine V_cut 3 (fun _ : Unit => [(3, v20), (4, .int .i64 (k10 : Int)), (5, .int .u8 (x43.toNat : Int)), (8, v20), (9, .int .i64 (x1.length : Int)), (10, .int .i64 (k10 : Int)), (20, .bool ((decide ((65 : Int) ≤ (x43.toNat : Int))) && (decide ((x43.toNat : Int) ≤ 90))))]) (fun _ w' => w19 = w') ?_ ?_
        · simp only [List.take, List.drop]
          rcases Bool.eq_false_or_eq_true (decide ((65 : Int) ≤ (x43.toNat : Int))) with hc48 | hc48
          · refine V_ge rfl rfl rfl hc48 ?_
            refine V_y (Y_move rfl) rfl rfl rfl ?_
            refine V_ge rfl rfl rfl hc48 ?_
            refine V_y (Y_leq rfl rfl) rfl rfl rfl ?_
            refine V_y (Y_pick_te rfl hc48 rfl) rfl rfl rfl ?_
            exact V_end fun a ha => ⟨(), ha.sub ⟨rfl, rfl, rfl, rfl, rfl, rfl, (by rw [hc48]; rfl), trivial⟩, rfl⟩
          · refine V_gn rfl rfl rfl hc48 rfl rfl rfl ?_
            refine V_gn rfl rfl rfl hc48 rfl rfl rfl ?_
            refine V_y (Y_pick_fe rfl hc48 rfl) rfl rfl rfl ?_
            exact V_end fun a ha => ⟨(), ha.sub ⟨rfl, rfl, rfl, rfl, rfl, rfl, (by rw [hc48]; rfl), trivial⟩, rfl⟩
        simp only [List.take, List.drop]
        rintro _ _ rfl
        refine V_to (fun _ _ => rfl) ?_
        obtain ⟨s51, ho50, ho33⟩ := Option.bind_eq_some_iff.1 ho33
        refine C_cutG (ι := (Value × (Nat → Prop))) (fun ⟨v53, A58⟩ => [(3, v53), (8, v53), (9, .int .i64 (x1.length : Int)), (10, .int .i64 (k10 : Int))]) (fun ⟨v53, A58⟩ => fun w' => Hp w.heap.size A58 w' (obU 5 v53 s51 :: []) ∧ Tr w.heap.size A22 w19 A58 w') ?_ ?_
        · have hr52 : Tr w.heap.size A22 w19 A22 w19 := Tr.refl hA
          refine C_cond rfl (fun hc60 => ?_) (fun hc60 => ?_)
          · rw [if_pos hc60] at ho50
            refine C_region ?_
            refine V_y (Y_move rfl) rfl rfl rfl ?_
            refine V_y (Y_move rfl) rfl rfl rfl ?_
            refine V_y (Y_move rfl) rfl rfl rfl ?_
            refine V_y (Y_addB rfl rfl) rfl rfl rfl ?_
            refine V_y (Y_subB rfl rfl) rfl rfl rfl ?_
            refine V_indexAddrU (e := 5) (v := v20) (l := s18) hH (i := 0) rfl hx43 Try.underlying151 Try.sizeOf5 rfl rfl rfl ?_
            intro b61 o62 h63 hl64
            obtain ⟨x65, hx65, ho50⟩ := Option.bind_eq_some_iff.1 ho50
            refine V_storeU (e := 5) (v := v20) (l := s18) hH (i := 0) rfl hl64 hx65 rfl Try.sizeOf5 rfl hB hA rfl rfl ?_
            intro w66 hH67 ht68
            replace hK := Tr.trans hK ht68
            replace hr9 := Tr.trans hr9 ht68
            replace hr35 := Tr.trans hr35 ht68
            replace hr52 := Tr.trans hr52 ht68
            replace hB := Nat.le_trans hB ht68.ex.size
            replace hA := ht68.new
            replace hH : Hp w.heap.size A22 w66 (obU 5 v20 x65 :: []) := hH67
            obtain rfl := Option.some.inj ho50
            refine V_end (fun a ha69 => ?_)
            exact ⟨(v20, A22), ha69.sub ⟨rfl, rfl, rfl, rfl, trivial⟩, ⟨hH, hr52⟩⟩
          · rw [if_neg (nt hc60)] at ho50
            obtain rfl := Option.some.inj ho50
            refine C_skip (fun a ha70 => ?_)
            exact ⟨(v20, A22), ha70.sub ⟨rfl, rfl, rfl, rfl, trivial⟩, ⟨hH, hr52⟩⟩
        rintro ⟨v53, A58⟩ w55 ⟨hH59, hk56⟩ a ha57
        replace hK := Tr.trans hK hk56
        replace hr9 := Tr.trans hr9 hk56
        replace hr35 := Tr.trans hr35 hk56
        replace hB := Nat.le_trans hB hk56.ex.size
        replace hA := hk56.new
        replace hH : Hp w.heap.size A58 w55 (obU 5 v53 s51 :: []) := hH59
        obtain rfl := Option.some.inj ho33
        exact ⟨(v53, A58), ha57.sub ⟨rfl, rfl, rfl, rfl, trivial⟩, ⟨hH, hr35⟩⟩
      rintro ⟨v36, A41⟩ w38 ⟨hH42, hk39⟩ a ha40
      replace hK := Tr.trans hK hk39
      replace hr9 := Tr.trans hr9 hk39
      replace hB := Nat.le_trans hB hk39.ex.size
      replace hA := hk39.new
      replace hH : Hp w.heap.size A41 w38 (obU 5 v36 s34 :: []) := hH42
      refine C_at (n := ⟨30, [], none⟩) (fun _ _ => rfl) ?_ ha40
      refine C_region ?_
      refine V_y (Y_addI rfl rfl) rfl rfl rfl ?_
      refine V_y (Y_move rfl) rfl rfl rfl ?_
      obtain rfl := Option.some.inj h25
      refine V_end (fun a ha72 => ?_)
      exact ⟨s34, hlt28, h26, ⟨(v36, A41), ha72.sub ⟨rfl, rfl, rfl, (congrArg (fun z => some (Value.int .i64 z)) (w64_succ hlt28 hn31)), trivial⟩, ⟨hH, hr9⟩⟩⟩
    · refine C_exit (fun a ha73 => ?_)
      exact ⟨(s18, v20, A22), ha73.sub ⟨rfl, trivial⟩, ⟨(h29 (eq_of_dec hle27 hc32)).symm, hH, hr9⟩⟩
  rintro ⟨s8, v14, A16⟩ w11 ⟨rfl, hH17, hk12⟩ a ha13
  rw [Lp.andThen_fin] at hm
  replace hK := Tr.trans hK hk12
  replace hB := Nat.le_trans hB hk12.ex.size
  replace hA := hk12.new
  replace hH : Hp w.heap.size A16 w11 (obU 5 v14 s8 :: []) := hH17
  refine C_at (n := ⟨30, [], none⟩) (fun _ _ => rfl) ?_ ha13
  refine C_seq ?_
  refine C_region ?_
  refine V_y (Y_move rfl) rfl rfl rfl ?_
  obtain ⟨A75, ht76, h77, hH78⟩ := Hp.freezeU (v := v14) (l := s8) hH (i := 0) rfl hA
  replace hK := Tr.trans hK ht76
  replace hB := Nat.le_trans hB ht76.ex.size
  replace hA := ht76.new
  replace hH : Hp w.heap.size A75 w11 ([]) := hH78
  refine V_y (Y_convBS (l := s8) h77 Try.underlying151 Try.underlying5 Try.underlying9 rfl) rfl rfl rfl ?_
  refine V_y (Y_assign rfl) rfl rfl rfl ?_
  refine V_to (fun _ _ => rfl) ?_
  obtain rfl := Option.some.inj hm
  refine C_ret ?_
  try simp only [↓inBlock_ret, ↓then_ret]
  exact retQ rfl (Res.one Try.results53 rfl) ⟨rfl, hK.kp⟩

set_option maxRecDepth 4000 in
set_option maxHeartbeats 4000000 in
theorem know_Words_c (w : World) {A : Nat → Prop} (hA : ∀ b, w.heap.size ≤ b → A b) (s : ByteArray) {r : (List ByteArray)} (hm : know_Words s = some r) : Ret Try.prog 50 #[.string s] w fun v w' => ∃ s0, v = s0 ∧ Ownd 9 w w' s0 r ∧ Kp w w' := by
  unfold know_Words at hm
  refine enter Try.func50 rfl Try.ntmps50 rfl ?_
  have hA0 := hA
  have hB := Nat.le_refl w.heap.size
  have hK : Tr w.heap.size A w A w := Tr.refl hA
  have hH : Hp w.heap.size A w [] := Hp.nil
  refine C_seq ?_
  refine C_region ?_
  refine V_y (Y_assign rfl) rfl rfl rfl ?_
  refine V_to (fun _ _ => rfl) ?_
  refine C_seq ?_
  refine C_region ?_
  refine V_y (Y_assign rfl) rfl rfl rfl ?_
  refine V_to (fun _ _ => rfl) ?_
  refine C_seq ?_
  refine C_seq ?_
  refine C_region ?_
  refine V_y (Y_assign rfl) rfl rfl rfl ?_
  refine V_to (fun _ _ => rfl) ?_
  replace hH : Hp w.heap.size A w (obS (α := ByteArray) 9 (.slice none 0 0) ([] : (List ByteArray)) :: []) := Hp.addNil (α := ByteArray) (e := 9) hH
  obtain ⟨o1, ho1, hm⟩ := Option.bind_eq_some_iff.1 hm
  refine C_cutG (ι := (((List ByteArray) × Int) × Value × (Nat → Prop))) (fun ⟨s2, v8, A10⟩ => [(3, v8)]) (fun ⟨s2, v8, A10⟩ => fun w' => o1 = .fin s2 ∧ Hp w.heap.size A10 w' (obS (α := ByteArray) 9 v8 s2.1 :: []) ∧ Tr w.heap.size A w A10 w') ?_ ?_
  · refine C_block ?_
    refine C_while ho1 (fun s12 a w' => ∃ i : (Value × (Nat → Prop)), Has ⟨44, [], none⟩ a ([(0, .string s), (3, i.1), (4, .int .i64 s12.2)]) ∧ Hp w.heap.size i.2 w' (obS (α := ByteArray) 9 i.1 s12.1 :: []) ∧ Tr w.heap.size A w i.2 w') (fun a ha => ⟨(.slice none 0 0, A), ha.sub ⟨rfl, rfl, rfl, trivial⟩, ⟨hH, Tr.refl hA⟩⟩) ?_
    rintro K s12 a w13 ⟨⟨v14, A16⟩, ha83, hH17, hr3⟩ K24
    refine C_of ?_ ha83
    replace hK := Tr.trans hK hr3
    replace hB := Nat.le_trans hB hr3.ex.size
    replace hA := hr3.new
    replace hH : Hp w.heap.size A16 w13 (obS (α := ByteArray) 9 v14 s12.1 :: []) := hH17
    obtain ⟨x18, h19, h20⟩ := K24
    refine C_seq ?_
    refine C_seq ?_
    refine C_region ?_
    refine V_y (Y_move rfl) rfl rfl rfl ?_
    refine V_y (Y_move rfl) rfl rfl rfl ?_
    refine V_y (Y_lenStr rfl Try.underlying9 rfl) rfl rfl rfl ?_
    refine V_y (Y_lss rfl rfl) rfl rfl rfl ?_
    refine V_to (fun _ _ => rfl) ?_
    refine C_cond rfl (fun hc25 => ?_) (fun hc25 => ?_)
    · rw [if_pos hc25] at h19
      refine C_skip_to (fun _ _ => rfl) ?_
      refine C_seq ?_
      refine C_block ?_
      refine C_seq ?_
      refine C_region ?_
      refine V_y (Y_move rfl) rfl rfl rfl ?_
      refine V_y (Y_assign rfl) rfl rfl rfl ?_
      refine V_to (fun _ _ => rfl) ?_
      refine C_seq ?_
      obtain ⟨o26, ho26, h19⟩ := Option.bind_eq_some_iff.1 h19
      refine C_cutG (ι := Int) (fun (s27 : Int) => [(0, .string s), (3, v14), (4, .int .i64 s12.2), (5, .int .i64 s27)]) (fun (s27 : Int) => fun w' => o26 = .fin s27 ∧ w13 = w') ?_ ?_
      · refine C_block ?_
        refine C_while ho26 (fun s33 a w' => ∃ i : Unit, Has ⟨44, [], none⟩ a ([(0, .string s), (3, v14), (4, .int .i64 s12.2), (5, .int .i64 s33)]) ∧ w13 = w') (fun a ha => ⟨(), ha.sub ⟨rfl, rfl, rfl, rfl, trivial⟩, rfl⟩) ?_
        rintro K s33 a _ ⟨_, ha48, rfl⟩ K41
        refine C_of ?_ ha48
        obtain ⟨x35, h36, h37⟩ := K41
        refine C_seq ?_
        refine C_seq ?_
        refine C_region ?_
        refine V_y (Y_move rfl) rfl rfl rfl ?_
        refine V_y (Y_move rfl) rfl rfl rfl ?_
        refine V_y (Y_lenStr rfl Try.underlying9 rfl) rfl rfl rfl ?_
        refine V_y (Y_lss rfl rfl) rfl rfl rfl ?_
        refine V_y (Y_move rfl) rfl rfl rfl ?_
        obtain ⟨s43, hs43, h36⟩ := Option.bind_eq_some_iff.1 h36
        refine V_cut 5 (fun _ : Unit => [(0, .string s), (3, v14), (4, .int .i64 s12.2), (5, .int .i64 s33), (22, .bool s43)]) (fun _ w' => w13 = w') ?_ ?_
        · simp only [List.take, List.drop]
          rcases Bool.eq_false_or_eq_true (decide (s33 < (s.size : Int))) with hc42 | hc42
          · rw [if_pos hc42] at hs43
            refine V_ge rfl rfl rfl hc42 ?_
            refine V_y (Y_move rfl) rfl rfl rfl ?_
            refine V_ge rfl rfl rfl hc42 ?_
            refine V_y (Y_move rfl) rfl rfl rfl ?_
            refine V_ge rfl rfl rfl hc42 ?_
            obtain ⟨x44, hx44, hs43⟩ := Option.bind_eq_some_iff.1 hs43
            refine V_y (Y_indexS hx44 Try.underlying9 rfl rfl) rfl rfl rfl ?_
            refine V_ge rfl rfl rfl hc42 ?_
            refine V_call Try.call52 rfl rfl rfl rfl (know_inWord_c w13 (x44.toNat : Int)) ?_
            rintro _ _ ⟨rfl, rfl⟩
            refine V_y (Y_pick_te rfl hc42 rfl) rfl rfl rfl ?_
            obtain rfl := Option.some.inj hs43
            exact V_end fun a ha => ⟨(), ha.sub ⟨rfl, rfl, rfl, rfl, rfl, trivial⟩, rfl⟩
          · rw [if_neg (nt hc42)] at hs43
            refine V_gn rfl rfl rfl hc42 rfl rfl rfl ?_
            refine V_gn rfl rfl rfl hc42 rfl rfl rfl ?_
            refine V_gn rfl rfl rfl hc42 rfl rfl rfl ?_
            refine V_gn rfl rfl rfl hc42 rfl rfl rfl ?_
            refine V_y (Y_pick_fe rfl hc42 rfl) rfl rfl rfl ?_
            obtain rfl := Option.some.inj hs43
            exact V_end fun a ha => ⟨(), ha.sub ⟨rfl, rfl, rfl, rfl, rfl, trivial⟩, rfl⟩
        simp only [List.take, List.drop]
        rintro _ _ rfl
        refine V_to (fun _ _ => rfl) ?_
        refine C_cond rfl (fun hc45 => ?_) (fun hc45 => ?_)
        · rw [if_pos hc45] at h36
          refine C_skip_to (fun _ _ => rfl) ?_
          refine C_block ?_
          refine C_region ?_
          refine V_y (Y_move rfl) rfl rfl rfl ?_
          refine V_y (Y_addI rfl rfl) rfl rfl rfl ?_
          refine V_y (Y_assign rfl) rfl rfl rfl ?_
          obtain rfl := Option.some.inj h36
          refine V_end (fun a ha46 => ?_)
          exact ⟨w64 (s33 + 1), h37, ⟨(), ha46.sub ⟨rfl, rfl, rfl, rfl, trivial⟩, rfl⟩⟩
        · rw [if_neg (nt hc45)] at h36
          obtain rfl := Option.some.inj h36
          refine C_exit (fun a ha47 => ?_)
          exact ⟨s33, ha47.sub ⟨rfl, rfl, rfl, rfl, trivial⟩, ⟨h37.symm, rfl⟩⟩
      rintro s27 _ ⟨rfl, rfl⟩ a ha32
      rw [Lp.andThen_fin] at h19
      refine C_at (n := ⟨44, [], none⟩) (fun _ _ => rfl) ?_ ha32
      refine C_seq ?_
      refine C_seq ?_
      refine C_region ?_
      refine V_y (Y_move rfl) rfl rfl rfl ?_
      refine V_y (Y_move rfl) rfl rfl rfl ?_
      refine V_y (Y_gtr rfl rfl) rfl rfl rfl ?_
      refine V_y (Y_move rfl) rfl rfl rfl ?_
      refine V_cut 5 (fun _ : Unit => [(0, .string s), (3, v14), (4, .int .i64 s12.2), (5, .int .i64 s27), (33, .bool ((decide (s12.2 < s27)) && (decide ((w64 (s27 - s12.2)) ≤ 30))))]) (fun _ w' => w13 = w') ?_ ?_
      · simp only [List.take, List.drop]
        rcases Bool.eq_false_or_eq_true (decide (s12.2 < s27)) with hc49 | hc49
        · refine V_ge rfl rfl rfl hc49 ?_
          refine V_y (Y_move rfl) rfl rfl rfl ?_
          refine V_ge rfl rfl rfl hc49 ?_
          refine V_y (Y_move rfl) rfl rfl rfl ?_
          refine V_ge rfl rfl rfl hc49 ?_
          refine V_y (Y_subI rfl rfl) rfl rfl rfl ?_
          refine V_ge rfl rfl rfl hc49 ?_
          refine V_y (Y_leq rfl rfl) rfl rfl rfl ?_
          refine V_y (Y_pick_te rfl hc49 rfl) rfl rfl rfl ?_
          exact V_end fun a ha => ⟨(), ha.sub ⟨rfl, rfl, rfl, rfl, (by rw [hc49]; rfl), trivial⟩, rfl⟩
        · refine V_gn rfl rfl rfl hc49 rfl rfl rfl ?_
          refine V_gn rfl rfl rfl hc49 rfl rfl rfl ?_
          refine V_gn rfl rfl rfl hc49 rfl rfl rfl ?_
          refine V_gn rfl rfl rfl hc49 rfl rfl rfl ?_
          refine V_y (Y_pick_fe rfl hc49 rfl) rfl rfl rfl ?_
          exact V_end fun a ha => ⟨(), ha.sub ⟨rfl, rfl, rfl, rfl, (by rw [hc49]; rfl), trivial⟩, rfl⟩
      simp only [List.take, List.drop]
      rintro _ _ rfl
      refine V_to (fun _ _ => rfl) ?_
      obtain ⟨s52, ho51, h19⟩ := Option.bind_eq_some_iff.1 h19
      refine C_cutG (ι := (Value × (Nat → Prop))) (fun ⟨v54, A59⟩ => [(0, .string s), (3, v54), (5, .int .i64 s27)]) (fun ⟨v54, A59⟩ => fun w' => Hp w.heap.size A59 w' (obS (α := ByteArray) 9 v54 s52 :: []) ∧ Tr w.heap.size A16 w13 A59 w') ?_ ?_
      · have hr53 : Tr w.heap.size A16 w13 A16 w13 := Tr.refl hA
        refine C_cond rfl (fun hc61 => ?_) (fun hc61 => ?_)
        · rw [if_pos hc61] at ho51
          refine C_region ?_
          refine V_y (Y_move rfl) rfl rfl rfl ?_
          refine V_y (Y_move rfl) rfl rfl rfl ?_
          refine V_y (Y_move rfl) rfl rfl rfl ?_
          refine V_y (Y_move rfl) rfl rfl rfl ?_
          obtain ⟨x62, hx62, ho51⟩ := Option.bind_eq_some_iff.1 ho51
          refine V_y (Y_sliceSLH hx62 Try.underlying9 rfl rfl rfl) rfl rfl rfl ?_
          obtain ⟨x63, hx63, ho51⟩ := Option.bind_eq_some_iff.1 ho51
          refine V_call Try.call53 rfl rfl rfl rfl (know_lower_c w13 hA x62 hx63) ?_
          rintro _ w65 ⟨rfl, hk66⟩
          have ht67 := Kp.tr hk66 hA hB
          replace hH := Hp.kp hH hk66
          replace hK := Tr.trans hK ht67
          replace hr3 := Tr.trans hr3 ht67
          replace hr53 := Tr.trans hr53 ht67
          replace hB := Nat.le_trans hB ht67.ex.size
          replace hA := ht67.new
          refine V_buildSlice (l := ([x63] : List ByteArray)) (len := 1) Try.underlying36 Try.sizeOf9 Try.zeroValue9 rfl (by with_unfolding_all rfl) (by decide) (by decide) hA ⟨[.string x63], _, rfl, rfl, rfl⟩ rfl rfl ?_
          intro v68 w69 hk71 h70
          have ht72 := Kp.tr hk71 hA hB
          replace hH := Hp.kp hH hk71
          replace hK := Tr.trans hK ht72
          replace hr3 := Tr.trans hr3 ht72
          replace hr53 := Tr.trans hr53 ht72
          replace hB := Nat.le_trans hB ht72.ex.size
          replace hA := ht72.new
          obtain ⟨x73, hx73, ho51⟩ := Option.bind_eq_some_iff.1 ho51
          refine V_appendH (e := 9) (v := v14) (l := s12.1) (ti := Try.t9) (bytes := 16) (lim := 8796093022208) hH (i := 0) rfl h70 hx73 Try.underlying36 Try_info9 rfl rfl rfl rfl (by decide) (by decide) (by decide) hB hA rfl rfl rfl ?_
          intro v74 w75 A76 hH77 ht78
          replace h70 := Sl.tr h70 ht78
          replace hK := Tr.trans hK ht78
          replace hr3 := Tr.trans hr3 ht78
          replace hr53 := Tr.trans hr53 ht78
          replace hB := Nat.le_trans hB ht78.ex.size
          replace hA := ht78.new
          replace hH : Hp w.heap.size A76 w75 (obS (α := ByteArray) 9 v74 x73 :: []) := hH77
          refine V_y (Y_assign rfl) rfl rfl rfl ?_
          obtain rfl := Option.some.inj ho51
          refine V_end (fun a ha79 => ?_)
          exact ⟨(v74, A76), ha79.sub ⟨rfl, rfl, rfl, trivial⟩, ⟨hH, hr53⟩⟩
        · rw [if_neg (nt hc61)] at ho51
          obtain rfl := Option.some.inj ho51
          refine C_skip (fun a ha80 => ?_)
          exact ⟨(v14, A16), ha80.sub ⟨rfl, rfl, rfl, trivial⟩, ⟨hH, hr53⟩⟩
      rintro ⟨v54, A59⟩ w56 ⟨hH60, hk57⟩ a ha58
      replace hK := Tr.trans hK hk57
      replace hr3 := Tr.trans hr3 hk57
      replace hB := Nat.le_trans hB hk57.ex.size
      replace hA := hk57.new
      replace hH : Hp w.heap.size A59 w56 (obS (α := ByteArray) 9 v54 s52 :: []) := hH60
      refine C_at (n := ⟨44, [], none⟩) (fun _ _ => rfl) ?_ ha58
      refine C_region ?_
      refine V_y (Y_move rfl) rfl rfl rfl ?_
      refine V_y (Y_assign rfl) rfl rfl rfl ?_
      refine V_to (fun _ _ => rfl) ?_
      refine C_region ?_
      refine V_y (Y_move rfl) rfl rfl rfl ?_
      refine V_y (Y_addI rfl rfl) rfl rfl rfl ?_
      refine V_y (Y_assign rfl) rfl rfl rfl ?_
      obtain rfl := Option.some.inj h19
      refine V_end (fun a ha81 => ?_)
      exact ⟨(s52, w64 (s27 + 1)), h20, ⟨(v54, A59), ha81.sub ⟨rfl, rfl, rfl, trivial⟩, ⟨hH, hr3⟩⟩⟩
    · rw [if_neg (nt hc25)] at h19
      obtain rfl := Option.some.inj h19
      refine C_exit (fun a ha82 => ?_)
      exact ⟨((s12.1, s12.2), v14, A16), ha82.sub ⟨rfl, trivial⟩, ⟨h20.symm, hH, hr3⟩⟩
  rintro ⟨s2, v8, A10⟩ w5 ⟨rfl, hH11, hk6⟩ a ha7
  rw [Lp.andThen_fin] at hm
  replace hK := Tr.trans hK hk6
  replace hB := Nat.le_trans hB hk6.ex.size
  replace hA := hk6.new
  replace hH : Hp w.heap.size A10 w5 (obS (α := ByteArray) 9 v8 s2.1 :: []) := hH11
  refine C_at (n := ⟨44, [], none⟩) (fun _ _ => rfl) ?_ ha7
  refine C_seq ?_
  refine C_region ?_
  refine V_y (Y_move rfl) rfl rfl rfl ?_
  refine V_y (Y_assign rfl) rfl rfl rfl ?_
  refine V_to (fun _ _ => rfl) ?_
  obtain rfl := Option.some.inj hm
  refine C_ret ?_
  try simp only [↓inBlock_ret, ↓then_ret]
  exact retQ rfl (Res.one Try.results50 rfl) ⟨v8, rfl, (Hp.ownd hH (i := 0) rfl), hK.kp⟩

def Try_strings_Join_lay_ren : Go.Shelf.Ren := ⟨fun | 156 => 51 | 165 => 56 | 166 => 57 | 169 => 58 | 240 => 62 | 241 => 63 | 276 => 64 | 277 => 65 | n => n, fun | 0 => 0 | 1 => 1 | 2 => 2 | 3 => 3 | 4 => 4 | 5 => 5 | 6 => 6 | 7 => 7 | 8 => 8 | 9 => 9 | 10 => 10 | 11 => 11 | 12 => 12 | 13 => 13 | 14 => 14 | 15 => 15 | 16 => 16 | 17 => 17 | 18 => 18 | 19 => 19 | 20 => 20 | 21 => 21 | 28 => 81 | 31 => 36 | 34 => 86 | 37 => 151 | 41 => 41 | 51 => 174 | 55 => 43 | 67 => 150 | 68 => 44 | 69 => 45 | 70 => 155 | 71 => 156 | 72 => 157 | 73 => 158 | 74 => 159 | 75 => 160 | 76 => 161 | 77 => 162 | 80 => 163 | 81 => 173 | 101 => 79 | 104 => 29 | 114 => 182 | 127 => 164 | 164 => 165 | 165 => 166 | 166 => 167 | 238 => 168 | 239 => 169 | 240 => 170 | 241 => 171 | 242 => 172 | 243 => 175 | 244 => 176 | 245 => 177 | 246 => 178 | 247 => 179 | 248 => 180 | 249 => 181 | n => n, fun | 1 => 0 | n => n⟩
theorem Try_strings_Join_lay : Go.Proofs.Lays.n156 Try.prog Try_strings_Join_lay_ren := {
  mixed := by kernel_rfl,
  f156 := Try.func51.trans (congrArg some (by kernel_rfl)),
  f165 := Try.func56.trans (congrArg some (by kernel_rfl)),
  f166 := Try.func57.trans (congrArg some (by kernel_rfl)),
  f169 := Try.func58.trans (congrArg some (by kernel_rfl)),
  f240 := Try.func62.trans (congrArg some (by kernel_rfl)),
  f241 := Try.func63.trans (congrArg some (by kernel_rfl)),
  f276 := Try.func64.trans (congrArg some (by kernel_rfl)),
  f277 := Try.func65.trans (congrArg some (by kernel_rfl)),
  t0 := Try.underlying0,
  a0 := Try.isAgg0,
  z0 := Try.sizeOf0,
  v0 := Try.zeroValue0,
  t3 := Try.underlying3,
  a3 := Try.isAgg3,
  z3 := Try.sizeOf3,
  v3 := Try.zeroValue3,
  t4 := Try.underlying4,
  a4 := Try.isAgg4,
  z4 := Try.sizeOf4,
  v4 := Try.zeroValue4,
  t9 := Try.underlying9,
  a9 := Try.isAgg9,
  z9 := Try.sizeOf9,
  v9 := Try.zeroValue9,
  t20 := Try.underlying20,
  a20 := Try.isAgg20,
  z20 := Try.sizeOf20,
  v20 := Try.zeroValue20,
  t31 := Try.underlying36,
  a31 := Try.isAgg36,
  z31 := Try.sizeOf36,
  v31 := Try.zeroValue36,
  t37 := Try.underlying151,
  a37 := Try.isAgg151,
  z37 := Try.sizeOf151,
  v37 := Try.zeroValue151,
  t70 := Try.underlying155,
  a70 := Try.isAgg155,
  z70 := Try.sizeOf155,
  v70 := Try.zeroValue155,
  t72 := Try.underlying157,
  a72 := Try.isAgg157,
  z72 := Try.sizeOf157,
  v72 := Try.zeroValue157,
  t75 := Try.underlying160,
  a75 := Try.isAgg160,
  z75 := Try.sizeOf160,
  v75 := Try.zeroValue160,
  t76 := Try.underlying161,
  a76 := Try.isAgg161,
  z76 := Try.sizeOf161,
  v76 := Try.zeroValue161,
  t127 := Try.underlying164,
  a127 := Try.isAgg164,
  z127 := Try.sizeOf164,
  v127 := Try.zeroValue164,
  t164 := Try.underlying165,
  a164 := Try.isAgg165,
  z164 := Try.sizeOf165,
  v164 := Try.zeroValue165 }
theorem Try_strings_Join_lay_x : Go.Proofs.Builder.Extra Try.prog Try_strings_Join_lay_ren := {
  sizeBuilder := by kernel_rfl
  liesBuilder := by kernel_rfl
  t5 := Try.underlying5
  a5 := Try.isAgg5
  z5 := Try.sizeOf5
  v5 := Try.zeroValue5
  infoByte := by kernel_rfl
  cellsByte := by kernel_rfl
  sizeByte := by kernel_rfl
  neB5 := (by decide : (157 : Nat) ≠ 5) }
theorem strings_Join_c (w : World) {A : Nat → Prop} (hA : ∀ b, w.heap.size ≤ b → A b) (elems : List ByteArray) (v_e : Value) (h_e : Sl A w v_e elems) (sep : ByteArray) {r : ByteArray} (hm : strings_Join elems sep = some r) : Ret Try.prog 51 #[v_e, .string sep] w fun v w' => v = .string r ∧ Kp w w' := by
  unfold strings_Join at hm
  split at hm
  case isFalse => cases hm
  rename_i h
  obtain rfl := Option.some.inj hm
  exact join_wrap h_e (fun a c => Go.Proofs.Any.strings_Join_none Try_strings_Join_lay Try_strings_Join_lay_x a c sep w) (fun bk o c h1 h2 h3 => Go.Proofs.Any.strings_Join Try_strings_Join_lay Try_strings_Join_lay_x bk o c elems sep w h1 h2 h.1 h3 h.2)

set_option maxRecDepth 4000 in
set_option maxHeartbeats 4000000 in
theorem know_QueryText_c (w : World) {A : Nat → Prop} (hA : ∀ b, w.heap.size ≤ b → A b) (q : know_Query) (v_q : Value) (h_q : Sl A w v_q q.parts) {r : (ByteArray × Int)} (hm : know_QueryText q = some r) : Ret Try.prog 8 #[.agg #[v_q]] w fun v w' => v = .tuple #[.string r.1, .int .i64 r.2] ∧ Kp w w' := by
  unfold know_QueryText at hm
  refine enter Try.func8 rfl Try.ntmps8 rfl ?_
  have hA0 := hA
  have hB := Nat.le_refl w.heap.size
  have hK : Tr w.heap.size A w A w := Tr.refl hA
  have hH : Hp w.heap.size A w [] := Hp.nil
  refine C_seq ?_
  refine C_region ?_
  refine V_box rfl rfl ?_
  intro b3 w4 h5
  have hk7 := h5.kp
  have h6 : El (α := know_Query) A w4 b3 0 q := h5.el hA ⟨_, rfl, h_q⟩
  have ht8 := Kp.tr hk7 hA hB
  replace hH := Hp.kp hH hk7
  replace h_q := Sl.tr h_q ht8
  replace hK := Tr.trans hK ht8
  replace hB := Nat.le_trans hB ht8.ex.size
  replace hA := ht8.new
  refine V_y (Y_assign rfl) rfl rfl rfl ?_
  refine V_y (Y_assign rfl) rfl rfl rfl ?_
  refine V_to (fun _ _ => rfl) ?_
  refine C_seq ?_
  refine C_seq ?_
  refine C_region ?_
  have h9 := El_know_Query_0 h6
  refine V_y (Y_fieldAddr Try.underlying24 rfl Try.sizeOf22 (by decide) rfl) rfl rfl rfl ?_
  obtain ⟨v10, h11, h12⟩ := El.list h9
  refine V_y (Y_load h11 Try.isAgg22 rfl) rfl rfl rfl ?_
  refine V_y (Y_lenSl h12 rfl Try.underlying22 rfl) rfl rfl rfl ?_
  refine V_y (Y_gtr rfl rfl) rfl rfl rfl ?_
  refine V_to (fun _ _ => rfl) ?_
  refine C_cond rfl (fun hc13 => ?_) (fun hc13 => ?_)
  · rw [if_pos hc13] at hm
    refine C_seq ?_
    refine C_region ?_
    refine V_y (Y_assign rfl) rfl rfl rfl ?_
    refine V_y (Y_assign rfl) rfl rfl rfl ?_
    refine V_to (fun _ _ => rfl) ?_
    obtain rfl := Option.some.inj hm
    refine C_ret ?_
    try simp only [↓inBlock_ret, ↓then_ret]
    exact retQ rfl (Res.two Try.results8 rfl rfl) ⟨rfl, hK.kp⟩
  · rw [if_neg (nt hc13)] at hm
    refine C_skip_to (fun _ _ => rfl) ?_
    refine C_seq ?_
    refine C_region ?_
    refine V_y (Y_assign rfl) rfl rfl rfl ?_
    refine V_to (fun _ _ => rfl) ?_
    refine C_seq ?_
    refine C_seq ?_
    refine C_region ?_
    have h14 := El_know_Query_0 h6
    refine V_y (Y_fieldAddr Try.underlying24 rfl Try.sizeOf22 (by decide) rfl) rfl rfl rfl ?_
    obtain ⟨v15, h16, h17⟩ := El.list h14
    refine V_y (Y_load h16 Try.isAgg22 rfl) rfl rfl rfl ?_
    refine V_y (Y_lenSl h17 rfl Try.underlying22 rfl) rfl rfl rfl ?_
    refine V_y (Y_move rfl) rfl rfl rfl ?_
    refine V_to (fun _ _ => rfl) ?_
    replace hH : Hp w.heap.size A w4 (obS (α := ByteArray) 9 (.slice none 0 0) ([] : (List ByteArray)) :: []) := Hp.addNil (α := ByteArray) (e := 9) hH
    have hn42 := Sl.le h17
    obtain ⟨o18, ho18, hm⟩ := Option.bind_eq_some_iff.1 hm
    refine C_cutG (ι := ((List ByteArray) × Value × (Nat → Prop))) (fun ⟨s19, v25, A27⟩ => [(4, v25)]) (fun ⟨s19, v25, A27⟩ => fun w' => o18 = .fin s19 ∧ Hp w.heap.size A27 w' (obS (α := ByteArray) 9 v25 s19 :: []) ∧ Tr w.heap.size A w4 A27 w') ?_ ?_
    · refine C_block ?_
      refine C_range ho18 (fun k21 s29 a w' => ∃ i : (Value × (Nat → Prop)), Has ⟨93, [], none⟩ a ([(4, i.1), (17, v15), (18, .int .i64 (q.parts.length : Int)), (19, .int .i64 (k21 : Int))]) ∧ Hp w.heap.size i.2 w' (obS (α := ByteArray) 9 i.1 s29 :: []) ∧ Tr w.heap.size A w4 i.2 w') (fun a ha => ⟨(.slice none 0 0, A), ha.sub ⟨rfl, rfl, rfl, rfl, trivial⟩, ⟨hH, Tr.refl hA⟩⟩) ?_
      rintro K k21 s29 a w30 ⟨⟨v31, A33⟩, ha189, hH34, hr20⟩ hle38 K41 h40
      refine C_of ?_ ha189
      replace h17 := Sl.tr h17 hr20
      replace hK := Tr.trans hK hr20
      replace hB := Nat.le_trans hB hr20.ex.size
      replace hA := hr20.new
      replace hH : Hp w.heap.size A33 w30 (obS (α := ByteArray) 9 v31 s29 :: []) := hH34
      refine C_seq (C_region (V_y (Y_lss rfl rfl) rfl rfl rfl (V_to (fun _ _ => rfl) ?_)))
      refine C_seq ?_
      refine C_cond rfl (fun hc43 => ?_) (fun hc43 => ?_)
      · have hlt39 := lt_of_dec hc43
        obtain ⟨x35, h36, h37⟩ := K41 hlt39
        refine C_skip_to (fun _ _ => rfl) ?_
        refine C_seq ?_
        refine C_block ?_
        refine C_seq ?_
        refine C_region ?_
        obtain ⟨x44, hx44, h36⟩ := Option.bind_eq_some_iff.1 h36
        refine V_indexAddr h17 hx44 Try.underlying22 Try.sizeOf38 rfl rfl rfl ?_
        intro b45 o46 h47
        obtain ⟨v48, h50, h49⟩ := El_know_Part h47
        refine V_y (Y_loadA h50 Try.isAgg38 Try.sizeOf38 rfl) rfl rfl rfl ?_
        refine V_alloc Try.zeroValue38 rfl ?_
        intro b51 w52 h53
        have h58 : (v48).oneCell' = true := by obtain ⟨_, _, e, _⟩ := Sl.form h49; rw [e]; rfl
        refine V_storeNew h53 Try.sizeOf38 rfl rfl rfl rfl (by exact (List.forall_mem_cons.2 ⟨rfl, (List.forall_mem_cons.2 ⟨rfl, (List.forall_mem_cons.2 ⟨h58, (fun _ h => nomatch h)⟩)⟩)⟩)) ?_
        intro w54 h55
        have hk60 := h55.kp
        have h59 : El (α := know_Part) A33 w54 b51 0 x44 := h55.el hA ⟨[.int .i64 x44.kind], _, rfl, rfl, ⟨[.bool x44.not], _, rfl, rfl, ⟨_, rfl, h49⟩⟩⟩
        have ht61 := Kp.tr hk60 hA hB
        replace hH := Hp.kp hH hk60
        replace h17 := Sl.tr h17 ht61
        replace h47 := El.tr h47 ht61
        replace h49 := Sl.tr h49 ht61
        replace hK := Tr.trans hK ht61
        replace hr20 := Tr.trans hr20 ht61
        replace hB := Nat.le_trans hB ht61.ex.size
        replace hA := ht61.new
        refine V_to (fun _ _ => rfl) ?_
        refine C_seq ?_
        refine C_seq ?_
        refine C_region ?_
        have h62 := El_know_Part_0 h59
        refine V_y (Y_fieldAddr Try.underlying38 rfl Try.sizeOf3 (by decide) rfl) rfl rfl rfl ?_
        refine V_y (Y_load (El.int h62) Try.isAgg3 rfl) rfl rfl rfl ?_
        refine V_call Try.call49 rfl rfl rfl rfl (know_within_c w54 x44.kind 0 2) ?_
        rintro _ _ ⟨rfl, rfl⟩
        refine V_y (Y_not rfl) rfl rfl rfl ?_
        refine V_y (Y_move rfl) rfl rfl rfl ?_
        refine V_cut 5 (fun _ : Unit => [(4, v31), (6, .pointer (some ⟨b51, 0, none⟩)), (17, v15), (18, .int .i64 (q.parts.length : Int)), (19, .int .i64 (k21 : Int)), (32, .bool ((!(know_within x44.kind 0 2)) || ((x44.words.length : Int) == 0)))]) (fun _ w' => w54 = w') ?_ ?_
        · simp only [List.take, List.drop]
          rcases Bool.eq_false_or_eq_true (!(know_within x44.kind 0 2)) with hc63 | hc63
          · refine V_gn rfl rfl rfl hc63 rfl rfl rfl ?_
            refine V_gn rfl rfl rfl hc63 rfl rfl rfl ?_
            refine V_gn rfl rfl rfl hc63 rfl rfl rfl ?_
            refine V_gn rfl rfl rfl hc63 rfl rfl rfl ?_
            refine V_y (Y_pick_te rfl hc63 rfl) rfl rfl rfl ?_
            exact V_end fun a ha => ⟨(), ha.sub ⟨rfl, rfl, rfl, rfl, rfl, (by rw [hc63]; rfl), trivial⟩, rfl⟩
          · refine V_ge rfl rfl rfl hc63 ?_
            have h65 := El_know_Part_2 h59
            refine V_y (Y_fieldAddr Try.underlying38 rfl Try.sizeOf36 (by decide) rfl) rfl rfl rfl ?_
            refine V_ge rfl rfl rfl hc63 ?_
            obtain ⟨v66, h67, h68⟩ := El.list h65
            refine V_y (Y_load h67 Try.isAgg36 rfl) rfl rfl rfl ?_
            refine V_ge rfl rfl rfl hc63 ?_
            refine V_y (Y_lenSl h68 rfl Try.underlying36 rfl) rfl rfl rfl ?_
            refine V_ge rfl rfl rfl hc63 ?_
            refine V_y (Y_eql rfl rfl) rfl rfl rfl ?_
            refine V_y (Y_pick_fe rfl hc63 rfl) rfl rfl rfl ?_
            exact V_end fun a ha => ⟨(), ha.sub ⟨rfl, rfl, rfl, rfl, rfl, (by rw [hc63]; rfl), trivial⟩, rfl⟩
        simp only [List.take, List.drop]
        rintro _ _ rfl
        refine V_y (Y_move rfl) rfl rfl rfl ?_
        refine V_cut 10 (fun _ : Unit => [(4, v31), (6, .pointer (some ⟨b51, 0, none⟩)), (17, v15), (18, .int .i64 (q.parts.length : Int)), (19, .int .i64 (k21 : Int)), (43, .bool (((!(know_within x44.kind 0 2)) || ((x44.words.length : Int) == 0)) || ((x44.kind != 1) && (decide ((1 : Int) < (x44.words.length : Int))))))]) (fun _ w' => w54 = w') ?_ ?_
        · simp only [List.take, List.drop]
          rcases Bool.eq_false_or_eq_true (((!(know_within x44.kind 0 2)) || ((x44.words.length : Int) == 0))) with hc69 | hc69
          · refine V_gn rfl rfl rfl hc69 rfl rfl rfl ?_
            refine V_gn rfl rfl rfl hc69 rfl rfl rfl ?_
            refine V_gn rfl rfl rfl hc69 rfl rfl rfl ?_
            refine V_gn rfl rfl rfl hc69 rfl rfl rfl ?_
            refine V_gu rfl rfl rfl rfl rfl ?_
            refine V_gu rfl rfl rfl rfl rfl ?_
            refine V_gu rfl rfl rfl rfl rfl ?_
            refine V_gu rfl rfl rfl rfl rfl ?_
            refine V_gn rfl rfl rfl hc69 rfl rfl rfl ?_
            refine V_y (Y_pick_te rfl hc69 rfl) rfl rfl rfl ?_
            exact V_end fun a ha => ⟨(), ha.sub ⟨rfl, rfl, rfl, rfl, rfl, (by rw [hc69]; rfl), trivial⟩, rfl⟩
          · refine V_ge rfl rfl rfl hc69 ?_
            have h71 := El_know_Part_0 h59
            refine V_y (Y_fieldAddr Try.underlying38 rfl Try.sizeOf3 (by decide) rfl) rfl rfl rfl ?_
            refine V_ge rfl rfl rfl hc69 ?_
            refine V_y (Y_load (El.int h71) Try.isAgg3 rfl) rfl rfl rfl ?_
            refine V_ge rfl rfl rfl hc69 ?_
            refine V_y (Y_neq rfl rfl) rfl rfl rfl ?_
            refine V_ge rfl rfl rfl hc69 ?_
            refine V_y (Y_move rfl) rfl rfl rfl ?_
            refine V_cut 5 (fun _ : Unit => [(4, v31), (6, .pointer (some ⟨b51, 0, none⟩)), (17, v15), (18, .int .i64 (q.parts.length : Int)), (19, .int .i64 (k21 : Int)), (33, .bool ((!(know_within x44.kind 0 2)) || ((x44.words.length : Int) == 0))), (42, .bool ((x44.kind != 1) && (decide ((1 : Int) < (x44.words.length : Int)))))]) (fun _ w' => w54 = w') ?_ ?_
            · simp only [List.take, List.drop]
              rcases Bool.eq_false_or_eq_true (x44.kind != 1) with hc72 | hc72
              · refine V_ge rfl rfl rfl hc72 ?_
                have h74 := El_know_Part_2 h59
                refine V_y (Y_fieldAddr Try.underlying38 rfl Try.sizeOf36 (by decide) rfl) rfl rfl rfl ?_
                refine V_ge rfl rfl rfl hc72 ?_
                obtain ⟨v75, h76, h77⟩ := El.list h74
                refine V_y (Y_load h76 Try.isAgg36 rfl) rfl rfl rfl ?_
                refine V_ge rfl rfl rfl hc72 ?_
                refine V_y (Y_lenSl h77 rfl Try.underlying36 rfl) rfl rfl rfl ?_
                refine V_ge rfl rfl rfl hc72 ?_
                refine V_y (Y_gtr rfl rfl) rfl rfl rfl ?_
                refine V_ge rfl rfl rfl hc69 ?_
                refine V_y (Y_pick_te rfl hc72 rfl) rfl rfl rfl ?_
                exact V_end fun a ha => ⟨(), ha.sub ⟨rfl, rfl, rfl, rfl, rfl, rfl, (by rw [hc72]; rfl), trivial⟩, rfl⟩
              · refine V_gn rfl rfl rfl hc72 rfl rfl rfl ?_
                refine V_gn rfl rfl rfl hc72 rfl rfl rfl ?_
                refine V_gn rfl rfl rfl hc72 rfl rfl rfl ?_
                refine V_gn rfl rfl rfl hc72 rfl rfl rfl ?_
                refine V_ge rfl rfl rfl hc69 ?_
                refine V_y (Y_pick_fe rfl hc72 rfl) rfl rfl rfl ?_
                exact V_end fun a ha => ⟨(), ha.sub ⟨rfl, rfl, rfl, rfl, rfl, rfl, (by rw [hc72]; rfl), trivial⟩, rfl⟩
            simp only [List.take, List.drop]
            rintro _ _ rfl
            refine V_y (Y_pick_fe rfl hc69 rfl) rfl rfl rfl ?_
            exact V_end fun a ha => ⟨(), ha.sub ⟨rfl, rfl, rfl, rfl, rfl, (by rw [hc69]; rfl), trivial⟩, rfl⟩
        simp only [List.take, List.drop]
        rintro _ _ rfl
        refine V_to (fun _ _ => rfl) ?_
        refine C_cond rfl (fun hc78 => ?_) (fun hc78 => ?_)
        · rw [if_pos hc78] at h36
          refine C_seq ?_
          refine C_region ?_
          refine V_y (Y_assign rfl) rfl rfl rfl ?_
          refine V_y (Y_assign rfl) rfl rfl rfl ?_
          refine V_to (fun _ _ => rfl) ?_
          obtain rfl := Option.some.inj h36
          obtain rfl := (h37 : Lp.rt _ = _)
          rw [Lp.andThen_rt] at hm
          obtain rfl := Option.some.inj hm
          refine C_ret ?_
          try simp only [↓inBlock_ret, ↓then_ret]
          exact retQ rfl (Res.two Try.results8 rfl rfl) ⟨rfl, hK.kp⟩
        · rw [if_neg (nt hc78)] at h36
          refine C_skip_to (fun _ _ => rfl) ?_
          refine C_seq ?_
          refine C_seq ?_
          refine C_region ?_
          have h79 := El_know_Part_2 h59
          refine V_y (Y_fieldAddr Try.underlying38 rfl Try.sizeOf36 (by decide) rfl) rfl rfl rfl ?_
          obtain ⟨v80, h81, h82⟩ := El.list h79
          refine V_y (Y_load h81 Try.isAgg36 rfl) rfl rfl rfl ?_
          refine V_y (Y_lenSl h82 rfl Try.underlying36 rfl) rfl rfl rfl ?_
          refine V_y (Y_move rfl) rfl rfl rfl ?_
          refine V_to (fun _ _ => rfl) ?_
          have hn103 := Sl.le h82
          obtain ⟨o83, ho83, h36⟩ := Option.bind_eq_some_iff.1 h36
          refine C_cutG (ι := (Unit × (Nat → Prop))) (fun ⟨s84, A90⟩ => [(4, v31), (6, .pointer (some ⟨b51, 0, none⟩)), (17, v15), (18, .int .i64 (q.parts.length : Int)), (19, .int .i64 (k21 : Int))]) (fun ⟨s84, A90⟩ => fun w' => o83 = .fin s84 ∧ Hp w.heap.size A90 w' (obS (α := ByteArray) 9 v31 s29 :: []) ∧ Tr w.heap.size A33 w54 A90 w') ?_ ?_
          · refine C_block ?_
            refine C_range ho83 (fun k86 _ a w' => ∃ i : (Nat → Prop), Has ⟨93, [], none⟩ a ([(4, v31), (6, .pointer (some ⟨b51, 0, none⟩)), (17, v15), (18, .int .i64 (q.parts.length : Int)), (19, .int .i64 (k21 : Int)), (45, v80), (46, .int .i64 (x44.words.length : Int)), (47, .int .i64 (k86 : Int))]) ∧ Hp w.heap.size i w' (obS (α := ByteArray) 9 v31 s29 :: []) ∧ Tr w.heap.size A33 w54 i w') (fun a ha => ⟨A33, ha.sub ⟨rfl, rfl, rfl, rfl, rfl, rfl, rfl, rfl, trivial⟩, ⟨hH, Tr.refl hA⟩⟩) ?_
            rintro K k86 _ a w93 ⟨A94, ha127, hH95, hr85⟩ hle99 K102 h101
            refine C_of ?_ ha127
            replace h17 := Sl.tr h17 hr85
            replace h59 := El.tr h59 hr85
            replace h82 := Sl.tr h82 hr85
            replace hK := Tr.trans hK hr85
            replace hr20 := Tr.trans hr20 hr85
            replace hB := Nat.le_trans hB hr85.ex.size
            replace hA := hr85.new
            replace hH : Hp w.heap.size A94 w93 (obS (α := ByteArray) 9 v31 s29 :: []) := hH95
            refine C_seq (C_region (V_y (Y_lss rfl rfl) rfl rfl rfl (V_to (fun _ _ => rfl) ?_)))
            refine C_seq ?_
            refine C_cond rfl (fun hc104 => ?_) (fun hc104 => ?_)
            · have hlt100 := lt_of_dec hc104
              obtain ⟨x96, h97, h98⟩ := K102 hlt100
              refine C_skip_to (fun _ _ => rfl) ?_
              refine C_seq ?_
              refine C_block ?_
              refine C_seq ?_
              refine C_region ?_
              obtain ⟨x105, hx105, h97⟩ := Option.bind_eq_some_iff.1 h97
              refine V_indexAddr h82 hx105 Try.underlying36 Try.sizeOf9 rfl rfl rfl ?_
              intro b106 o107 h108
              refine V_y (Y_load (El.str h108) Try.isAgg9 rfl) rfl rfl rfl ?_
              refine V_y (Y_assign rfl) rfl rfl rfl ?_
              refine V_to (fun _ _ => rfl) ?_
              refine C_seq ?_
              refine C_region ?_
              refine V_y (Y_move rfl) rfl rfl rfl ?_
              obtain ⟨x109, hx109, h97⟩ := Option.bind_eq_some_iff.1 h97
              refine V_call Try.call50 rfl rfl rfl rfl (know_Words_c w93 hA x105 hx109) ?_
              rintro v110 w112 ⟨_, rfl, h111, hk113⟩
              obtain ⟨A114, ht115, hH116⟩ := Hp.addOwnd hH hB hA hk113 h111
              replace h17 := Sl.tr h17 ht115
              replace h59 := El.tr h59 ht115
              replace h82 := Sl.tr h82 ht115
              replace hK := Tr.trans hK ht115
              replace hr20 := Tr.trans hr20 ht115
              replace hr85 := Tr.trans hr85 ht115
              replace hB := Nat.le_trans hB ht115.ex.size
              replace hA := ht115.new
              replace hH : Hp w.heap.size A114 w112 (obS (α := ByteArray) 9 v110 x109 :: obS (α := ByteArray) 9 v31 s29 :: []) := hH116
              refine V_y (Y_assign rfl) rfl rfl rfl ?_
              refine V_to (fun _ _ => rfl) ?_
              refine C_seq ?_
              refine C_region ?_
              refine V_y (Y_move rfl) rfl rfl rfl ?_
              refine V_y (Y_lenSl (Hp.any (α := ByteArray) (e := 9) (v := v110) (l := x109) hH (i := 0) rfl) rfl Try.underlying36 rfl) rfl rfl rfl ?_
              refine V_y (Y_neq rfl rfl) rfl rfl rfl ?_
              refine V_y (Y_move rfl) rfl rfl rfl ?_
              obtain ⟨s118, hs118, h97⟩ := Option.bind_eq_some_iff.1 h97
              refine V_cut 6 (fun _ : Unit => [(4, v31), (6, .pointer (some ⟨b51, 0, none⟩)), (17, v15), (18, .int .i64 (q.parts.length : Int)), (19, .int .i64 (k21 : Int)), (45, v80), (46, .int .i64 (x44.words.length : Int)), (47, .int .i64 (k86 : Int)), (62, .bool s118)]) (fun _ w' => w112 = w') ?_ ?_
              · simp only [List.take, List.drop]
                rcases Bool.eq_false_or_eq_true ((x109.length : Int) != 1) with hc117 | hc117
                · rw [if_pos hc117] at hs118
                  refine V_gn rfl rfl rfl hc117 rfl rfl rfl ?_
                  refine V_gn rfl rfl rfl hc117 rfl rfl rfl ?_
                  refine V_gn rfl rfl rfl hc117 rfl rfl rfl ?_
                  refine V_gn rfl rfl rfl hc117 rfl rfl rfl ?_
                  refine V_gn rfl rfl rfl hc117 rfl rfl rfl ?_
                  refine V_y (Y_pick_te rfl hc117 rfl) rfl rfl rfl ?_
                  obtain rfl := Option.some.inj hs118
                  exact V_end fun a ha => ⟨(), ha.sub ⟨rfl, rfl, rfl, rfl, rfl, rfl, rfl, rfl, rfl, trivial⟩, rfl⟩
                · rw [if_neg (nt hc117)] at hs118
                  refine V_ge rfl rfl rfl hc117 ?_
                  refine V_y (Y_move rfl) rfl rfl rfl ?_
                  refine V_ge rfl rfl rfl hc117 ?_
                  obtain ⟨x119, hx119, hs118⟩ := Option.bind_eq_some_iff.1 hs118
                  refine V_indexAddrH (α := ByteArray) (e := 9) (v := v110) (l := x109) hH (i := 0) rfl hx119 Try.underlying36 Try.sizeOf9 rfl rfl rfl ?_
                  intro b120 o121 h122 hl123
                  refine V_ge rfl rfl rfl hc117 ?_
                  refine V_y (Y_load (El.str h122) Try.isAgg9 rfl) rfl rfl rfl ?_
                  refine V_ge rfl rfl rfl hc117 ?_
                  refine V_y (Y_move rfl) rfl rfl rfl ?_
                  refine V_ge rfl rfl rfl hc117 ?_
                  refine V_y (Y_sneq rfl rfl) rfl rfl rfl ?_
                  refine V_y (Y_pick_fe rfl hc117 rfl) rfl rfl rfl ?_
                  obtain rfl := Option.some.inj hs118
                  exact V_end fun a ha => ⟨(), ha.sub ⟨rfl, rfl, rfl, rfl, rfl, rfl, rfl, rfl, rfl, trivial⟩, rfl⟩
              simp only [List.take, List.drop]
              rintro _ _ rfl
              refine V_to (fun _ _ => rfl) ?_
              refine C_cond rfl (fun hc124 => ?_) (fun hc124 => ?_)
              · rw [if_pos hc124] at h97
                refine C_seq ?_
                refine C_region ?_
                refine V_y (Y_assign rfl) rfl rfl rfl ?_
                refine V_y (Y_assign rfl) rfl rfl rfl ?_
                refine V_to (fun _ _ => rfl) ?_
                obtain rfl := Option.some.inj h97
                obtain rfl := (h98 : Lp.rt _ = _)
                rw [Lp.andThen_rt] at h36
                obtain rfl := Option.some.inj h36
                obtain rfl := (h37 : Lp.rt _ = _)
                rw [Lp.andThen_rt] at hm
                obtain rfl := Option.some.inj hm
                refine C_ret ?_
                try simp only [↓inBlock_ret, ↓then_ret]
                exact retQ rfl (Res.two Try.results8 rfl rfl) ⟨rfl, hK.kp⟩
              · rw [if_neg (nt hc124)] at h97
                refine C_skip_to (fun _ _ => rfl) ?_
                refine C_region ?_
                refine V_y (Y_addI rfl rfl) rfl rfl rfl ?_
                refine V_y (Y_move rfl) rfl rfl rfl ?_
                obtain rfl := Option.some.inj h97
                refine V_end (fun a ha125 => ?_)
                replace hH : Hp w.heap.size A114 w112 (obS (α := ByteArray) 9 v31 s29 :: obS (α := ByteArray) 9 v110 x109 :: []) := Hp.front hH (i := 1) rfl
                replace hH : Hp w.heap.size A114 w112 (obS (α := ByteArray) 9 v31 s29 :: []) := Hp.drop hH (i := 1) rfl
                exact ⟨(), hlt100, h98, ⟨A114, ha125.sub ⟨rfl, rfl, rfl, rfl, rfl, rfl, rfl, (congrArg (fun z => some (Value.int .i64 z)) (w64_succ hlt100 hn103)), trivial⟩, ⟨hH, hr85⟩⟩⟩
            · refine C_exit (fun a ha126 => ?_)
              exact ⟨((), A94), ha126.sub ⟨rfl, rfl, rfl, rfl, rfl, trivial⟩, ⟨(h101 (eq_of_dec hle99 hc104)).symm, hH, hr85⟩⟩
          rintro ⟨s84, A90⟩ w87 ⟨rfl, hH91, hk88⟩ a ha89
          rw [Lp.andThen_fin] at h36
          replace h17 := Sl.tr h17 hk88
          replace h59 := El.tr h59 hk88
          replace hK := Tr.trans hK hk88
          replace hr20 := Tr.trans hr20 hk88
          replace hB := Nat.le_trans hB hk88.ex.size
          replace hA := hk88.new
          replace hH : Hp w.heap.size A90 w87 (obS (α := ByteArray) 9 v31 s29 :: []) := hH91
          refine C_at (n := ⟨93, [], none⟩) (fun _ _ => rfl) ?_ ha89
          refine C_seq ?_
          refine C_region ?_
          have h128 := El_know_Part_2 h59
          refine V_y (Y_fieldAddr Try.underlying38 rfl Try.sizeOf36 (by decide) rfl) rfl rfl rfl ?_
          obtain ⟨v129, h130, h131⟩ := El.list h128
          refine V_y (Y_load h130 Try.isAgg36 rfl) rfl rfl rfl ?_
          obtain ⟨x132, hx132, h36⟩ := Option.bind_eq_some_iff.1 h36
          refine V_call Try.call51 rfl rfl rfl rfl (strings_Join_c w87 hA x44.words v129 h131 (⟨#[32]⟩ : ByteArray) hx132) ?_
          rintro _ w133 ⟨rfl, hk134⟩
          have ht135 := Kp.tr hk134 hA hB
          replace hH := Hp.kp hH hk134
          replace h17 := Sl.tr h17 ht135
          replace h59 := El.tr h59 ht135
          replace h128 := El.tr h128 ht135
          replace h131 := Sl.tr h131 ht135
          replace hK := Tr.trans hK ht135
          replace hr20 := Tr.trans hr20 ht135
          replace hB := Nat.le_trans hB ht135.ex.size
          replace hA := ht135.new
          refine V_y (Y_assign rfl) rfl rfl rfl ?_
          refine V_to (fun _ _ => rfl) ?_
          refine C_seq ?_
          refine C_seq ?_
          refine C_region ?_
          have h136 := El_know_Part_0 h59
          refine V_y (Y_fieldAddr Try.underlying38 rfl Try.sizeOf3 (by decide) rfl) rfl rfl rfl ?_
          refine V_y (Y_load (El.int h136) Try.isAgg3 rfl) rfl rfl rfl ?_
          refine V_to (fun _ _ => rfl) ?_
          obtain ⟨s138, ho137, h36⟩ := Option.bind_eq_some_iff.1 h36
          refine C_cutG (ι := Unit) (fun (_ : Unit) => [(4, v31), (6, .pointer (some ⟨b51, 0, none⟩)), (10, .string s138), (17, v15), (18, .int .i64 (q.parts.length : Int)), (19, .int .i64 (k21 : Int))]) (fun (_ : Unit) => fun w' => w133 = w') ?_ ?_
          · refine C_block ?_
            refine C_seq ?_
            refine C_region ?_
            refine V_y (Y_eql rfl rfl) rfl rfl rfl ?_
            refine V_y (Y_assign rfl) rfl rfl rfl ?_
            refine V_to (fun _ _ => rfl) ?_
            obtain ⟨s144, ho143, ho137⟩ := Option.bind_eq_some_iff.1 ho137
            refine C_cutG (ι := Unit) (fun (_ : Unit) => [(4, v31), (6, .pointer (some ⟨b51, 0, none⟩)), (10, .string s144), (17, v15), (18, .int .i64 (q.parts.length : Int)), (19, .int .i64 (k21 : Int))]) (fun (_ : Unit) => fun w' => w133 = w') ?_ ?_
            · refine C_cond rfl (fun hc149 => ?_) (fun hc149 => ?_)
              · rw [if_pos hc149] at ho143
                refine C_region ?_
                refine V_y (Y_move rfl) rfl rfl rfl ?_
                obtain ⟨x150, hx150, ho143⟩ := Option.bind_eq_some_iff.1 ho143
                refine V_y (Y_sadd hx150 rfl rfl) rfl rfl rfl ?_
                obtain ⟨x151, hx151, ho143⟩ := Option.bind_eq_some_iff.1 ho143
                refine V_y (Y_sadd hx151 rfl rfl) rfl rfl rfl ?_
                refine V_y (Y_assign rfl) rfl rfl rfl ?_
                obtain rfl := Option.some.inj ho143
                refine V_end (fun a ha152 => ?_)
                exact ⟨(), ha152.sub ⟨rfl, rfl, rfl, rfl, rfl, rfl, trivial⟩, rfl⟩
              · rw [if_neg (nt hc149)] at ho143
                refine C_seq ?_
                refine C_region ?_
                refine V_y (Y_eql rfl rfl) rfl rfl rfl ?_
                refine V_y (Y_assign rfl) rfl rfl rfl ?_
                refine V_to (fun _ _ => rfl) ?_
                obtain ⟨s154, ho153, ho143⟩ := Option.bind_eq_some_iff.1 ho143
                refine C_cutG (ι := Unit) (fun (_ : Unit) => [(4, v31), (6, .pointer (some ⟨b51, 0, none⟩)), (10, .string s154), (17, v15), (18, .int .i64 (q.parts.length : Int)), (19, .int .i64 (k21 : Int))]) (fun (_ : Unit) => fun w' => w133 = w') ?_ ?_
                · refine C_cond rfl (fun hc159 => ?_) (fun hc159 => ?_)
                  · rw [if_pos hc159] at ho153
                    refine C_region ?_
                    refine V_y (Y_move rfl) rfl rfl rfl ?_
                    obtain ⟨x160, hx160, ho153⟩ := Option.bind_eq_some_iff.1 ho153
                    refine V_y (Y_sadd hx160 rfl rfl) rfl rfl rfl ?_
                    refine V_y (Y_assign rfl) rfl rfl rfl ?_
                    obtain rfl := Option.some.inj ho153
                    refine V_end (fun a ha161 => ?_)
                    exact ⟨(), ha161.sub ⟨rfl, rfl, rfl, rfl, rfl, rfl, trivial⟩, rfl⟩
                  · rw [if_neg (nt hc159)] at ho153
                    obtain rfl := Option.some.inj ho153
                    refine C_skip (fun a ha162 => ?_)
                    exact ⟨(), ha162.sub ⟨rfl, rfl, rfl, rfl, rfl, rfl, trivial⟩, rfl⟩
                rintro _ _ rfl a ha158
                obtain rfl := Option.some.inj ho143
                exact ⟨(), ha158.sub ⟨rfl, rfl, rfl, rfl, rfl, rfl, trivial⟩, rfl⟩
            rintro _ _ rfl a ha148
            obtain rfl := Option.some.inj ho137
            exact ⟨(), ha148.sub ⟨rfl, rfl, rfl, rfl, rfl, rfl, trivial⟩, rfl⟩
          rintro _ _ rfl a ha142
          refine C_at (n := ⟨93, [], none⟩) (fun _ _ => rfl) ?_ ha142
          refine C_seq ?_
          refine C_seq ?_
          refine C_region ?_
          have h165 := El_know_Part_1 h59
          refine V_y (Y_fieldAddr Try.underlying38 rfl Try.sizeOf4 (by decide) rfl) rfl rfl rfl ?_
          refine V_y (Y_load (El.bool h165) Try.isAgg4 rfl) rfl rfl rfl ?_
          refine V_to (fun _ _ => rfl) ?_
          obtain ⟨s167, ho166, h36⟩ := Option.bind_eq_some_iff.1 h36
          refine C_cutG (ι := Unit) (fun (_ : Unit) => [(4, v31), (10, .string s167), (17, v15), (18, .int .i64 (q.parts.length : Int)), (19, .int .i64 (k21 : Int))]) (fun (_ : Unit) => fun w' => w133 = w') ?_ ?_
          · refine C_cond rfl (fun hc172 => ?_) (fun hc172 => ?_)
            · rw [if_pos hc172] at ho166
              refine C_region ?_
              refine V_y (Y_move rfl) rfl rfl rfl ?_
              obtain ⟨x173, hx173, ho166⟩ := Option.bind_eq_some_iff.1 ho166
              refine V_y (Y_sadd hx173 rfl rfl) rfl rfl rfl ?_
              refine V_y (Y_assign rfl) rfl rfl rfl ?_
              obtain rfl := Option.some.inj ho166
              refine V_end (fun a ha174 => ?_)
              exact ⟨(), ha174.sub ⟨rfl, rfl, rfl, rfl, rfl, trivial⟩, rfl⟩
            · rw [if_neg (nt hc172)] at ho166
              obtain rfl := Option.some.inj ho166
              refine C_skip (fun a ha175 => ?_)
              exact ⟨(), ha175.sub ⟨rfl, rfl, rfl, rfl, rfl, trivial⟩, rfl⟩
          rintro _ _ rfl a ha171
          refine C_at (n := ⟨93, [], none⟩) (fun _ _ => rfl) ?_ ha171
          refine C_region ?_
          refine V_y (Y_move rfl) rfl rfl rfl ?_
          refine V_y (Y_move rfl) rfl rfl rfl ?_
          refine V_buildSlice (l := ([s167] : List ByteArray)) (len := 1) Try.underlying36 Try.sizeOf9 Try.zeroValue9 rfl (by with_unfolding_all rfl) (by decide) (by decide) hA ⟨[.string s167], _, rfl, rfl, rfl⟩ rfl rfl ?_
          intro v176 w177 hk179 h178
          have ht180 := Kp.tr hk179 hA hB
          replace hH := Hp.kp hH hk179
          replace h17 := Sl.tr h17 ht180
          replace hK := Tr.trans hK ht180
          replace hr20 := Tr.trans hr20 ht180
          replace hB := Nat.le_trans hB ht180.ex.size
          replace hA := ht180.new
          obtain ⟨x181, hx181, h36⟩ := Option.bind_eq_some_iff.1 h36
          refine V_appendH (e := 9) (v := v31) (l := s29) (ti := Try.t9) (bytes := 16) (lim := 8796093022208) hH (i := 0) rfl h178 hx181 Try.underlying36 Try_info9 rfl rfl rfl rfl (by decide) (by decide) (by decide) hB hA rfl rfl rfl ?_
          intro v182 w183 A184 hH185 ht186
          replace h17 := Sl.tr h17 ht186
          replace h178 := Sl.tr h178 ht186
          replace hK := Tr.trans hK ht186
          replace hr20 := Tr.trans hr20 ht186
          replace hB := Nat.le_trans hB ht186.ex.size
          replace hA := ht186.new
          replace hH : Hp w.heap.size A184 w183 (obS (α := ByteArray) 9 v182 x181 :: []) := hH185
          refine V_y (Y_assign rfl) rfl rfl rfl ?_
          refine V_to (fun _ _ => rfl) ?_
          refine C_region ?_
          refine V_y (Y_addI rfl rfl) rfl rfl rfl ?_
          refine V_y (Y_move rfl) rfl rfl rfl ?_
          obtain rfl := Option.some.inj h36
          refine V_end (fun a ha187 => ?_)
          exact ⟨x181, hlt39, h37, ⟨(v182, A184), ha187.sub ⟨rfl, rfl, rfl, (congrArg (fun z => some (Value.int .i64 z)) (w64_succ hlt39 hn42)), trivial⟩, ⟨hH, hr20⟩⟩⟩
      · refine C_exit (fun a ha188 => ?_)
        exact ⟨(s29, v31, A33), ha188.sub ⟨rfl, trivial⟩, ⟨(h40 (eq_of_dec hle38 hc43)).symm, hH, hr20⟩⟩
    rintro ⟨s19, v25, A27⟩ w22 ⟨rfl, hH28, hk23⟩ a ha24
    rw [Lp.andThen_fin] at hm
    replace hK := Tr.trans hK hk23
    replace hB := Nat.le_trans hB hk23.ex.size
    replace hA := hk23.new
    replace hH : Hp w.heap.size A27 w22 (obS (α := ByteArray) 9 v25 s19 :: []) := hH28
    refine C_at (n := ⟨93, [], none⟩) (fun _ _ => rfl) ?_ ha24
    refine C_seq ?_
    refine C_region ?_
    refine V_y (Y_move rfl) rfl rfl rfl ?_
    obtain ⟨x190, hx190, hm⟩ := Option.bind_eq_some_iff.1 hm
    refine V_call Try.call51 rfl rfl rfl rfl (strings_Join_c w22 (A := fun _ => True) (fun _ _ => trivial) s19 v25 (Hp.any (α := ByteArray) (e := 9) (v := v25) (l := s19) hH (i := 0) rfl) (⟨#[32]⟩ : ByteArray) hx190) ?_
    rintro _ w191 ⟨rfl, hk192⟩
    have ht193 := Kp.tr hk192 hA hB
    replace hH := Hp.kp hH hk192
    replace hK := Tr.trans hK ht193
    replace hB := Nat.le_trans hB ht193.ex.size
    replace hA := ht193.new
    refine V_y (Y_assign rfl) rfl rfl rfl ?_
    refine V_to (fun _ _ => rfl) ?_
    refine C_seq ?_
    refine C_seq ?_
    refine C_region ?_
    refine V_y (Y_move rfl) rfl rfl rfl ?_
    refine V_y (Y_lenStr rfl Try.underlying9 rfl) rfl rfl rfl ?_
    refine V_y (Y_gtr rfl rfl) rfl rfl rfl ?_
    refine V_to (fun _ _ => rfl) ?_
    refine C_cond rfl (fun hc194 => ?_) (fun hc194 => ?_)
    · rw [if_pos hc194] at hm
      refine C_seq ?_
      refine C_region ?_
      refine V_y (Y_assign rfl) rfl rfl rfl ?_
      refine V_y (Y_assign rfl) rfl rfl rfl ?_
      refine V_to (fun _ _ => rfl) ?_
      obtain rfl := Option.some.inj hm
      refine C_ret ?_
      try simp only [↓inBlock_ret, ↓then_ret]
      exact retQ rfl (Res.two Try.results8 rfl rfl) ⟨rfl, hK.kp⟩
    · rw [if_neg (nt hc194)] at hm
      refine C_skip_to (fun _ _ => rfl) ?_
      refine C_seq ?_
      refine C_region ?_
      refine V_y (Y_move rfl) rfl rfl rfl ?_
      refine V_y (Y_assign rfl) rfl rfl rfl ?_
      refine V_y (Y_assign rfl) rfl rfl rfl ?_
      refine V_to (fun _ _ => rfl) ?_
      obtain rfl := Option.some.inj hm
      refine C_ret ?_
      try simp only [↓inBlock_ret, ↓then_ret]
      exact retQ rfl (Res.two Try.results8 rfl rfl) ⟨rfl, hK.kp⟩

set_option maxRecDepth 4000 in
set_option maxHeartbeats 4000000 in
theorem portref2_isWordByte_c (w : World) (b : Int) : Ret Try.prog 16 #[.int .u8 b] w fun v w' => v = .bool (portref2_isWordByte b) ∧ w = w' := by
  generalize hm : portref2_isWordByte b = r
  unfold portref2_isWordByte at hm
  refine enter Try.func16 rfl Try.ntmps16 rfl ?_
  refine C_seq ?_
  refine C_region ?_
  refine V_y (Y_assign rfl) rfl rfl rfl ?_
  refine V_to (fun _ _ => rfl) ?_
  refine C_seq ?_
  refine C_region ?_
  refine V_y (Y_move rfl) rfl rfl rfl ?_
  refine V_y (Y_geq rfl rfl) rfl rfl rfl ?_
  refine V_y (Y_move rfl) rfl rfl rfl ?_
  refine V_cut 3 (fun _ : Unit => [(0, .int .u8 b), (8, .bool ((decide ((97 : Int) ≤ b)) && (decide (b ≤ 122))))]) (fun _ w' => w = w') ?_ ?_
  · simp only [List.take, List.drop]
    rcases Bool.eq_false_or_eq_true (decide ((97 : Int) ≤ b)) with hc1 | hc1
    · refine V_ge rfl rfl rfl hc1 ?_
      refine V_y (Y_move rfl) rfl rfl rfl ?_
      refine V_ge rfl rfl rfl hc1 ?_
      refine V_y (Y_leq rfl rfl) rfl rfl rfl ?_
      refine V_y (Y_pick_te rfl hc1 rfl) rfl rfl rfl ?_
      exact V_end fun a ha => ⟨(), ha.sub ⟨rfl, (by rw [hc1]; rfl), trivial⟩, rfl⟩
    · refine V_gn rfl rfl rfl hc1 rfl rfl rfl ?_
      refine V_gn rfl rfl rfl hc1 rfl rfl rfl ?_
      refine V_y (Y_pick_fe rfl hc1 rfl) rfl rfl rfl ?_
      exact V_end fun a ha => ⟨(), ha.sub ⟨rfl, (by rw [hc1]; rfl), trivial⟩, rfl⟩
  simp only [List.take, List.drop]
  rintro _ _ rfl
  refine V_y (Y_move rfl) rfl rfl rfl ?_
  refine V_cut 7 (fun _ : Unit => [(0, .int .u8 b), (16, .bool (((decide ((97 : Int) ≤ b)) && (decide (b ≤ 122))) || ((decide ((65 : Int) ≤ b)) && (decide (b ≤ 90)))))]) (fun _ w' => w = w') ?_ ?_
  · simp only [List.take, List.drop]
    rcases Bool.eq_false_or_eq_true (((decide ((97 : Int) ≤ b)) && (decide (b ≤ 122)))) with hc3 | hc3
    · refine V_gn rfl rfl rfl hc3 rfl rfl rfl ?_
      refine V_gn rfl rfl rfl hc3 rfl rfl rfl ?_
      refine V_gn rfl rfl rfl hc3 rfl rfl rfl ?_
      refine V_gu rfl rfl rfl rfl rfl ?_
      refine V_gu rfl rfl rfl rfl rfl ?_
      refine V_gn rfl rfl rfl hc3 rfl rfl rfl ?_
      refine V_y (Y_pick_te rfl hc3 rfl) rfl rfl rfl ?_
      exact V_end fun a ha => ⟨(), ha.sub ⟨rfl, (by rw [hc3]; rfl), trivial⟩, rfl⟩
    · refine V_ge rfl rfl rfl hc3 ?_
      refine V_y (Y_move rfl) rfl rfl rfl ?_
      refine V_ge rfl rfl rfl hc3 ?_
      refine V_y (Y_geq rfl rfl) rfl rfl rfl ?_
      refine V_ge rfl rfl rfl hc3 ?_
      refine V_y (Y_move rfl) rfl rfl rfl ?_
      refine V_cut 3 (fun _ : Unit => [(0, .int .u8 b), (9, .bool ((decide ((97 : Int) ≤ b)) && (decide (b ≤ 122)))), (15, .bool ((decide ((65 : Int) ≤ b)) && (decide (b ≤ 90))))]) (fun _ w' => w = w') ?_ ?_
      · simp only [List.take, List.drop]
        rcases Bool.eq_false_or_eq_true (decide ((65 : Int) ≤ b)) with hc5 | hc5
        · refine V_ge rfl rfl rfl hc5 ?_
          refine V_y (Y_move rfl) rfl rfl rfl ?_
          refine V_ge rfl rfl rfl hc5 ?_
          refine V_y (Y_leq rfl rfl) rfl rfl rfl ?_
          refine V_ge rfl rfl rfl hc3 ?_
          refine V_y (Y_pick_te rfl hc5 rfl) rfl rfl rfl ?_
          exact V_end fun a ha => ⟨(), ha.sub ⟨rfl, rfl, (by rw [hc5]; rfl), trivial⟩, rfl⟩
        · refine V_gn rfl rfl rfl hc5 rfl rfl rfl ?_
          refine V_gn rfl rfl rfl hc5 rfl rfl rfl ?_
          refine V_ge rfl rfl rfl hc3 ?_
          refine V_y (Y_pick_fe rfl hc5 rfl) rfl rfl rfl ?_
          exact V_end fun a ha => ⟨(), ha.sub ⟨rfl, rfl, (by rw [hc5]; rfl), trivial⟩, rfl⟩
      simp only [List.take, List.drop]
      rintro _ _ rfl
      refine V_y (Y_pick_fe rfl hc3 rfl) rfl rfl rfl ?_
      exact V_end fun a ha => ⟨(), ha.sub ⟨rfl, (by rw [hc3]; rfl), trivial⟩, rfl⟩
  simp only [List.take, List.drop]
  rintro _ _ rfl
  refine V_y (Y_move rfl) rfl rfl rfl ?_
  refine V_cut 7 (fun _ : Unit => [(0, .int .u8 b), (24, .bool ((((decide ((97 : Int) ≤ b)) && (decide (b ≤ 122))) || ((decide ((65 : Int) ≤ b)) && (decide (b ≤ 90)))) || ((decide ((48 : Int) ≤ b)) && (decide (b ≤ 57)))))]) (fun _ w' => w = w') ?_ ?_
  · simp only [List.take, List.drop]
    rcases Bool.eq_false_or_eq_true ((((decide ((97 : Int) ≤ b)) && (decide (b ≤ 122))) || ((decide ((65 : Int) ≤ b)) && (decide (b ≤ 90))))) with hc7 | hc7
    · refine V_gn rfl rfl rfl hc7 rfl rfl rfl ?_
      refine V_gn rfl rfl rfl hc7 rfl rfl rfl ?_
      refine V_gn rfl rfl rfl hc7 rfl rfl rfl ?_
      refine V_gu rfl rfl rfl rfl rfl ?_
      refine V_gu rfl rfl rfl rfl rfl ?_
      refine V_gn rfl rfl rfl hc7 rfl rfl rfl ?_
      refine V_y (Y_pick_te rfl hc7 rfl) rfl rfl rfl ?_
      exact V_end fun a ha => ⟨(), ha.sub ⟨rfl, (by rw [hc7]; rfl), trivial⟩, rfl⟩
    · refine V_ge rfl rfl rfl hc7 ?_
      refine V_y (Y_move rfl) rfl rfl rfl ?_
      refine V_ge rfl rfl rfl hc7 ?_
      refine V_y (Y_geq rfl rfl) rfl rfl rfl ?_
      refine V_ge rfl rfl rfl hc7 ?_
      refine V_y (Y_move rfl) rfl rfl rfl ?_
      refine V_cut 3 (fun _ : Unit => [(0, .int .u8 b), (17, .bool (((decide ((97 : Int) ≤ b)) && (decide (b ≤ 122))) || ((decide ((65 : Int) ≤ b)) && (decide (b ≤ 90))))), (23, .bool ((decide ((48 : Int) ≤ b)) && (decide (b ≤ 57))))]) (fun _ w' => w = w') ?_ ?_
      · simp only [List.take, List.drop]
        rcases Bool.eq_false_or_eq_true (decide ((48 : Int) ≤ b)) with hc9 | hc9
        · refine V_ge rfl rfl rfl hc9 ?_
          refine V_y (Y_move rfl) rfl rfl rfl ?_
          refine V_ge rfl rfl rfl hc9 ?_
          refine V_y (Y_leq rfl rfl) rfl rfl rfl ?_
          refine V_ge rfl rfl rfl hc7 ?_
          refine V_y (Y_pick_te rfl hc9 rfl) rfl rfl rfl ?_
          exact V_end fun a ha => ⟨(), ha.sub ⟨rfl, rfl, (by rw [hc9]; rfl), trivial⟩, rfl⟩
        · refine V_gn rfl rfl rfl hc9 rfl rfl rfl ?_
          refine V_gn rfl rfl rfl hc9 rfl rfl rfl ?_
          refine V_ge rfl rfl rfl hc7 ?_
          refine V_y (Y_pick_fe rfl hc9 rfl) rfl rfl rfl ?_
          exact V_end fun a ha => ⟨(), ha.sub ⟨rfl, rfl, (by rw [hc9]; rfl), trivial⟩, rfl⟩
      simp only [List.take, List.drop]
      rintro _ _ rfl
      refine V_y (Y_pick_fe rfl hc7 rfl) rfl rfl rfl ?_
      exact V_end fun a ha => ⟨(), ha.sub ⟨rfl, (by rw [hc7]; rfl), trivial⟩, rfl⟩
  simp only [List.take, List.drop]
  rintro _ _ rfl
  refine V_y (Y_move rfl) rfl rfl rfl ?_
  refine V_cut 3 (fun _ : Unit => [(28, .bool (((((decide ((97 : Int) ≤ b)) && (decide (b ≤ 122))) || ((decide ((65 : Int) ≤ b)) && (decide (b ≤ 90)))) || ((decide ((48 : Int) ≤ b)) && (decide (b ≤ 57)))) || (decide ((128 : Int) ≤ b))))]) (fun _ w' => w = w') ?_ ?_
  · simp only [List.take, List.drop]
    rcases Bool.eq_false_or_eq_true (((((decide ((97 : Int) ≤ b)) && (decide (b ≤ 122))) || ((decide ((65 : Int) ≤ b)) && (decide (b ≤ 90)))) || ((decide ((48 : Int) ≤ b)) && (decide (b ≤ 57))))) with hc11 | hc11
    · refine V_gn rfl rfl rfl hc11 rfl rfl rfl ?_
      refine V_gn rfl rfl rfl hc11 rfl rfl rfl ?_
      refine V_y (Y_pick_te rfl hc11 rfl) rfl rfl rfl ?_
      exact V_end fun a ha => ⟨(), ha.sub ⟨(by rw [hc11]; rfl), trivial⟩, rfl⟩
    · refine V_ge rfl rfl rfl hc11 ?_
      refine V_y (Y_move rfl) rfl rfl rfl ?_
      refine V_ge rfl rfl rfl hc11 ?_
      refine V_y (Y_geq rfl rfl) rfl rfl rfl ?_
      refine V_y (Y_pick_fe rfl hc11 rfl) rfl rfl rfl ?_
      exact V_end fun a ha => ⟨(), ha.sub ⟨(by rw [hc11]; rfl), trivial⟩, rfl⟩
  simp only [List.take, List.drop]
  rintro _ _ rfl
  refine V_y (Y_assign rfl) rfl rfl rfl ?_
  refine V_to (fun _ _ => rfl) ?_
  obtain rfl := hm
  refine C_ret ?_
  try simp only [↓inBlock_ret, ↓then_ret]
  exact retQ rfl (Res.one Try.results16 rfl) ⟨rfl, rfl⟩

set_option maxRecDepth 4000 in
set_option maxHeartbeats 4000000 in
theorem portref2_lower_c (w : World) {A : Nat → Prop} (hA : ∀ b, w.heap.size ≤ b → A b) (s : ByteArray) {r : ByteArray} (hm : portref2_lower s = some r) : Ret Try.prog 17 #[.string s] w fun v w' => v = .string r ∧ Kp w w' := by
  unfold portref2_lower at hm
  refine enter Try.func17 rfl Try.ntmps17 rfl ?_
  have hA0 := hA
  have hB := Nat.le_refl w.heap.size
  have hK : Tr w.heap.size A w A w := Tr.refl hA
  have hH : Hp w.heap.size A w [] := Hp.nil
  refine C_seq ?_
  refine C_region ?_
  refine V_y (Y_assign rfl) rfl rfl rfl ?_
  refine V_to (fun _ _ => rfl) ?_
  refine C_seq ?_
  refine C_region ?_
  refine V_y (Y_move rfl) rfl rfl rfl ?_
  obtain ⟨x1, hx1, hm⟩ := Option.bind_eq_some_iff.1 hm
  refine V_convU (e := 5) hH hx1 Try.underlying9 Try.underlying151 Try.underlying5 hB hA rfl rfl ?_
  intro v2 w3 A4 hH5 ht6
  replace hK := Tr.trans hK ht6
  replace hB := Nat.le_trans hB ht6.ex.size
  replace hA := ht6.new
  replace hH : Hp w.heap.size A4 w3 (obU 5 v2 x1 :: []) := hH5
  refine V_y (Y_assign rfl) rfl rfl rfl ?_
  refine V_to (fun _ _ => rfl) ?_
  refine C_seq ?_
  refine C_seq ?_
  refine C_region ?_
  refine V_y (Y_move rfl) rfl rfl rfl ?_
  refine V_y (Y_lenSl (Hp.anyU (e := 5) (v := v2) (l := x1) hH (i := 0) rfl) rfl Try.underlying151 rfl) rfl rfl rfl ?_
  refine V_y (Y_move rfl) rfl rfl rfl ?_
  refine V_to (fun _ _ => rfl) ?_
  have hn31 := Hp.leU (e := 5) (v := v2) (l := x1) hH (i := 0) rfl
  obtain ⟨o7, ho7, hm⟩ := Option.bind_eq_some_iff.1 hm
  refine C_cutG (ι := ((List UInt8) × Value × (Nat → Prop))) (fun ⟨s8, v14, A16⟩ => [(3, v14)]) (fun ⟨s8, v14, A16⟩ => fun w' => o7 = .fin s8 ∧ Hp w.heap.size A16 w' (obU 5 v14 s8 :: []) ∧ Tr w.heap.size A4 w3 A16 w') ?_ ?_
  · refine C_block ?_
    refine C_range ho7 (fun k10 s18 a w' => ∃ i : (Value × (Nat → Prop)), Has ⟨29, [], none⟩ a ([(3, i.1), (8, i.1), (9, .int .i64 (x1.length : Int)), (10, .int .i64 (k10 : Int))]) ∧ Hp w.heap.size i.2 w' (obU 5 i.1 s18 :: []) ∧ Tr w.heap.size A4 w3 i.2 w') (fun a ha => ⟨(v2, A4), ha.sub ⟨rfl, rfl, rfl, rfl, trivial⟩, ⟨hH, Tr.refl hA⟩⟩) ?_
    rintro K k10 s18 a w19 ⟨⟨v20, A22⟩, ha74, hH23, hr9⟩ hle27 K30 h29
    refine C_of ?_ ha74
    replace hK := Tr.trans hK hr9
    replace hB := Nat.le_trans hB hr9.ex.size
    replace hA := hr9.new
    replace hH : Hp w.heap.size A22 w19 (obU 5 v20 s18 :: []) := hH23
    refine C_seq (C_region (V_y (Y_lss rfl rfl) rfl rfl rfl (V_to (fun _ _ => rfl) ?_)))
    refine C_seq ?_
    refine C_cond rfl (fun hc32 => ?_) (fun hc32 => ?_)
    · have hlt28 := lt_of_dec hc32
      obtain ⟨x24, h25, h26⟩ := K30 hlt28
      refine C_skip_to (fun _ _ => rfl) ?_
      refine C_seq ?_
      obtain ⟨s34, ho33, h25⟩ := Option.bind_eq_some_iff.1 h25
      refine C_cutG (ι := (Value × (Nat → Prop))) (fun ⟨v36, A41⟩ => [(3, v36), (8, v36), (9, .int .i64 (x1.length : Int)), (10, .int .i64 (k10 : Int))]) (fun ⟨v36, A41⟩ => fun w' => Hp w.heap.size A41 w' (obU 5 v36 s34 :: []) ∧ Tr w.heap.size A22 w19 A41 w') ?_ ?_
      · have hr35 : Tr w.heap.size A22 w19 A22 w19 := Tr.refl hA
        refine C_block ?_
        refine C_seq ?_
        refine C_region ?_
        refine V_y (Y_move rfl) rfl rfl rfl ?_
        obtain ⟨x43, hx43, ho33⟩ := Option.bind_eq_some_iff.1 ho33
        refine V_indexAddrU (e := 5) (v := v20) (l := s18) hH (i := 0) rfl hx43 Try.underlying151 Try.sizeOf5 rfl rfl rfl ?_
        intro b44 o45 h46 hl47
        refine V_y (Y_load (El.u8 h46) Try.isAgg5 rfl) rfl rfl rfl ?_
        refine V_y (Y_assign rfl) rfl rfl rfl ?_
        refine V_y (Y_assign rfl) rfl rfl rfl ?_
        refine V_to (fun _ _ => rfl) ?_
        refine C_seq ?_
        refine C_region ?_
        refine V_y (Y_move rfl) rfl rfl rfl ?_
        refine V_y (Y_geq rfl rfl) rfl rfl rfl ?_
        refine V_y (Y_move rfl) rfl rfl rfl ?_
        refine V_cut 3 (fun _ : Unit => [(3, v20), (4, .int .i64 (k10 : Int)), (5, .int .u8 (x43.toNat : Int)), (8, v20), (9, .int .i64 (x1.length : Int)), (10, .int .i64 (k10 : Int)), (20, .bool ((decide ((65 : Int) ≤ (x43.toNat : Int))) && (decide ((x43.toNat : Int) ≤ 90))))]) (fun _ w' => w19 = w') ?_ ?_
        · simp only [List.take, List.drop]
          rcases Bool.eq_false_or_eq_true (decide ((65 : Int) ≤ (x43.toNat : Int))) with hc48 | hc48
          · refine V_ge rfl rfl rfl hc48 ?_
            refine V_y (Y_move rfl) rfl rfl rfl ?_
            refine V_ge rfl rfl rfl hc48 ?_
            refine V_y (Y_leq rfl rfl) rfl rfl rfl ?_
            refine V_y (Y_pick_te rfl hc48 rfl) rfl rfl rfl ?_
            exact V_end fun a ha => ⟨(), ha.sub ⟨rfl, rfl, rfl, rfl, rfl, rfl, (by rw [hc48]; rfl), trivial⟩, rfl⟩
          · refine V_gn rfl rfl rfl hc48 rfl rfl rfl ?_
            refine V_gn rfl rfl rfl hc48 rfl rfl rfl ?_
            refine V_y (Y_pick_fe rfl hc48 rfl) rfl rfl rfl ?_
            exact V_end fun a ha => ⟨(), ha.sub ⟨rfl, rfl, rfl, rfl, rfl, rfl, (by rw [hc48]; rfl), trivial⟩, rfl⟩
        simp only [List.take, List.drop]
        rintro _ _ rfl
        refine V_to (fun _ _ => rfl) ?_
        obtain ⟨s51, ho50, ho33⟩ := Option.bind_eq_some_iff.1 ho33
        refine C_cutG (ι := (Value × (Nat → Prop))) (fun ⟨v53, A58⟩ => [(3, v53), (8, v53), (9, .int .i64 (x1.length : Int)), (10, .int .i64 (k10 : Int))]) (fun ⟨v53, A58⟩ => fun w' => Hp w.heap.size A58 w' (obU 5 v53 s51 :: []) ∧ Tr w.heap.size A22 w19 A58 w') ?_ ?_
        · have hr52 : Tr w.heap.size A22 w19 A22 w19 := Tr.refl hA
          refine C_cond rfl (fun hc60 => ?_) (fun hc60 => ?_)
          · rw [if_pos hc60] at ho50
            refine C_region ?_
            refine V_y (Y_move rfl) rfl rfl rfl ?_
            refine V_y (Y_move rfl) rfl rfl rfl ?_
            refine V_y (Y_move rfl) rfl rfl rfl ?_
            refine V_y (Y_addB rfl rfl) rfl rfl rfl ?_
            refine V_indexAddrU (e := 5) (v := v20) (l := s18) hH (i := 0) rfl hx43 Try.underlying151 Try.sizeOf5 rfl rfl rfl ?_
            intro b61 o62 h63 hl64
            obtain ⟨x65, hx65, ho50⟩ := Option.bind_eq_some_iff.1 ho50
            refine V_storeU (e := 5) (v := v20) (l := s18) hH (i := 0) rfl hl64 hx65 rfl Try.sizeOf5 rfl hB hA rfl rfl ?_
            intro w66 hH67 ht68
            replace hK := Tr.trans hK ht68
            replace hr9 := Tr.trans hr9 ht68
            replace hr35 := Tr.trans hr35 ht68
            replace hr52 := Tr.trans hr52 ht68
            replace hB := Nat.le_trans hB ht68.ex.size
            replace hA := ht68.new
            replace hH : Hp w.heap.size A22 w66 (obU 5 v20 x65 :: []) := hH67
            obtain rfl := Option.some.inj ho50
            refine V_end (fun a ha69 => ?_)
            exact ⟨(v20, A22), ha69.sub ⟨rfl, rfl, rfl, rfl, trivial⟩, ⟨hH, hr52⟩⟩
          · rw [if_neg (nt hc60)] at ho50
            obtain rfl := Option.some.inj ho50
            refine C_skip (fun a ha70 => ?_)
            exact ⟨(v20, A22), ha70.sub ⟨rfl, rfl, rfl, rfl, trivial⟩, ⟨hH, hr52⟩⟩
        rintro ⟨v53, A58⟩ w55 ⟨hH59, hk56⟩ a ha57
        replace hK := Tr.trans hK hk56
        replace hr9 := Tr.trans hr9 hk56
        replace hr35 := Tr.trans hr35 hk56
        replace hB := Nat.le_trans hB hk56.ex.size
        replace hA := hk56.new
        replace hH : Hp w.heap.size A58 w55 (obU 5 v53 s51 :: []) := hH59
        obtain rfl := Option.some.inj ho33
        exact ⟨(v53, A58), ha57.sub ⟨rfl, rfl, rfl, rfl, trivial⟩, ⟨hH, hr35⟩⟩
      rintro ⟨v36, A41⟩ w38 ⟨hH42, hk39⟩ a ha40
      replace hK := Tr.trans hK hk39
      replace hr9 := Tr.trans hr9 hk39
      replace hB := Nat.le_trans hB hk39.ex.size
      replace hA := hk39.new
      replace hH : Hp w.heap.size A41 w38 (obU 5 v36 s34 :: []) := hH42
      refine C_at (n := ⟨29, [], none⟩) (fun _ _ => rfl) ?_ ha40
      refine C_region ?_
      refine V_y (Y_addI rfl rfl) rfl rfl rfl ?_
      refine V_y (Y_move rfl) rfl rfl rfl ?_
      obtain rfl := Option.some.inj h25
      refine V_end (fun a ha72 => ?_)
      exact ⟨s34, hlt28, h26, ⟨(v36, A41), ha72.sub ⟨rfl, rfl, rfl, (congrArg (fun z => some (Value.int .i64 z)) (w64_succ hlt28 hn31)), trivial⟩, ⟨hH, hr9⟩⟩⟩
    · refine C_exit (fun a ha73 => ?_)
      exact ⟨(s18, v20, A22), ha73.sub ⟨rfl, trivial⟩, ⟨(h29 (eq_of_dec hle27 hc32)).symm, hH, hr9⟩⟩
  rintro ⟨s8, v14, A16⟩ w11 ⟨rfl, hH17, hk12⟩ a ha13
  rw [Lp.andThen_fin] at hm
  replace hK := Tr.trans hK hk12
  replace hB := Nat.le_trans hB hk12.ex.size
  replace hA := hk12.new
  replace hH : Hp w.heap.size A16 w11 (obU 5 v14 s8 :: []) := hH17
  refine C_at (n := ⟨29, [], none⟩) (fun _ _ => rfl) ?_ ha13
  refine C_seq ?_
  refine C_region ?_
  refine V_y (Y_move rfl) rfl rfl rfl ?_
  obtain ⟨A75, ht76, h77, hH78⟩ := Hp.freezeU (v := v14) (l := s8) hH (i := 0) rfl hA
  replace hK := Tr.trans hK ht76
  replace hB := Nat.le_trans hB ht76.ex.size
  replace hA := ht76.new
  replace hH : Hp w.heap.size A75 w11 ([]) := hH78
  refine V_y (Y_convBS (l := s8) h77 Try.underlying151 Try.underlying5 Try.underlying9 rfl) rfl rfl rfl ?_
  refine V_y (Y_assign rfl) rfl rfl rfl ?_
  refine V_to (fun _ _ => rfl) ?_
  obtain rfl := Option.some.inj hm
  refine C_ret ?_
  try simp only [↓inBlock_ret, ↓then_ret]
  exact retQ rfl (Res.one Try.results17 rfl) ⟨rfl, hK.kp⟩

set_option maxRecDepth 4000 in
set_option maxHeartbeats 4000000 in
theorem portref2_WordsOf_c (w : World) {A : Nat → Prop} (hA : ∀ b, w.heap.size ≤ b → A b) (s : ByteArray) {r : (List ByteArray)} (hm : portref2_WordsOf s = some r) : Ret Try.prog 15 #[.string s] w fun v w' => ∃ s0, v = s0 ∧ Ownd 9 w w' s0 r ∧ Kp w w' := by
  unfold portref2_WordsOf at hm
  refine enter Try.func15 rfl Try.ntmps15 rfl ?_
  have hA0 := hA
  have hB := Nat.le_refl w.heap.size
  have hK : Tr w.heap.size A w A w := Tr.refl hA
  have hH : Hp w.heap.size A w [] := Hp.nil
  refine C_seq ?_
  refine C_region ?_
  refine V_y (Y_assign rfl) rfl rfl rfl ?_
  refine V_to (fun _ _ => rfl) ?_
  refine C_seq ?_
  refine C_region ?_
  refine V_y (Y_assign rfl) rfl rfl rfl ?_
  refine V_to (fun _ _ => rfl) ?_
  refine C_seq ?_
  refine C_seq ?_
  refine C_region ?_
  refine V_y (Y_assign rfl) rfl rfl rfl ?_
  refine V_to (fun _ _ => rfl) ?_
  replace hH : Hp w.heap.size A w (obS (α := ByteArray) 9 (.slice none 0 0) ([] : (List ByteArray)) :: []) := Hp.addNil (α := ByteArray) (e := 9) hH
  obtain ⟨o1, ho1, hm⟩ := Option.bind_eq_some_iff.1 hm
  refine C_cutG (ι := (((List ByteArray) × Int) × Value × (Nat → Prop))) (fun ⟨s2, v8, A10⟩ => [(3, v8)]) (fun ⟨s2, v8, A10⟩ => fun w' => o1 = .fin s2 ∧ Hp w.heap.size A10 w' (obS (α := ByteArray) 9 v8 s2.1 :: []) ∧ Tr w.heap.size A w A10 w') ?_ ?_
  · refine C_block ?_
    refine C_while ho1 (fun s12 a w' => ∃ i : (Value × (Nat → Prop)), Has ⟨45, [], none⟩ a ([(0, .string s), (3, i.1), (4, .int .i64 s12.2)]) ∧ Hp w.heap.size i.2 w' (obS (α := ByteArray) 9 i.1 s12.1 :: []) ∧ Tr w.heap.size A w i.2 w') (fun a ha => ⟨(.slice none 0 0, A), ha.sub ⟨rfl, rfl, rfl, trivial⟩, ⟨hH, Tr.refl hA⟩⟩) ?_
    rintro K s12 a w13 ⟨⟨v14, A16⟩, ha83, hH17, hr3⟩ K24
    refine C_of ?_ ha83
    replace hK := Tr.trans hK hr3
    replace hB := Nat.le_trans hB hr3.ex.size
    replace hA := hr3.new
    replace hH : Hp w.heap.size A16 w13 (obS (α := ByteArray) 9 v14 s12.1 :: []) := hH17
    obtain ⟨x18, h19, h20⟩ := K24
    refine C_seq ?_
    refine C_seq ?_
    refine C_region ?_
    refine V_y (Y_move rfl) rfl rfl rfl ?_
    refine V_y (Y_move rfl) rfl rfl rfl ?_
    refine V_y (Y_lenStr rfl Try.underlying9 rfl) rfl rfl rfl ?_
    refine V_y (Y_lss rfl rfl) rfl rfl rfl ?_
    refine V_to (fun _ _ => rfl) ?_
    refine C_cond rfl (fun hc25 => ?_) (fun hc25 => ?_)
    · rw [if_pos hc25] at h19
      refine C_skip_to (fun _ _ => rfl) ?_
      refine C_block ?_
      refine C_seq ?_
      refine C_region ?_
      refine V_y (Y_move rfl) rfl rfl rfl ?_
      refine V_y (Y_assign rfl) rfl rfl rfl ?_
      refine V_to (fun _ _ => rfl) ?_
      refine C_seq ?_
      obtain ⟨o26, ho26, h19⟩ := Option.bind_eq_some_iff.1 h19
      refine C_cutG (ι := Int) (fun (s27 : Int) => [(0, .string s), (3, v14), (4, .int .i64 s12.2), (5, .int .i64 s27)]) (fun (s27 : Int) => fun w' => o26 = .fin s27 ∧ w13 = w') ?_ ?_
      · refine C_block ?_
        refine C_while ho26 (fun s33 a w' => ∃ i : Unit, Has ⟨45, [], none⟩ a ([(0, .string s), (3, v14), (4, .int .i64 s12.2), (5, .int .i64 s33)]) ∧ w13 = w') (fun a ha => ⟨(), ha.sub ⟨rfl, rfl, rfl, rfl, trivial⟩, rfl⟩) ?_
        rintro K s33 a _ ⟨_, ha48, rfl⟩ K41
        refine C_of ?_ ha48
        obtain ⟨x35, h36, h37⟩ := K41
        refine C_seq ?_
        refine C_seq ?_
        refine C_region ?_
        refine V_y (Y_move rfl) rfl rfl rfl ?_
        refine V_y (Y_move rfl) rfl rfl rfl ?_
        refine V_y (Y_lenStr rfl Try.underlying9 rfl) rfl rfl rfl ?_
        refine V_y (Y_lss rfl rfl) rfl rfl rfl ?_
        refine V_y (Y_move rfl) rfl rfl rfl ?_
        obtain ⟨s43, hs43, h36⟩ := Option.bind_eq_some_iff.1 h36
        refine V_cut 5 (fun _ : Unit => [(0, .string s), (3, v14), (4, .int .i64 s12.2), (5, .int .i64 s33), (20, .bool s43)]) (fun _ w' => w13 = w') ?_ ?_
        · simp only [List.take, List.drop]
          rcases Bool.eq_false_or_eq_true (decide (s33 < (s.size : Int))) with hc42 | hc42
          · rw [if_pos hc42] at hs43
            refine V_ge rfl rfl rfl hc42 ?_
            refine V_y (Y_move rfl) rfl rfl rfl ?_
            refine V_ge rfl rfl rfl hc42 ?_
            refine V_y (Y_move rfl) rfl rfl rfl ?_
            refine V_ge rfl rfl rfl hc42 ?_
            obtain ⟨x44, hx44, hs43⟩ := Option.bind_eq_some_iff.1 hs43
            refine V_y (Y_indexS hx44 Try.underlying9 rfl rfl) rfl rfl rfl ?_
            refine V_ge rfl rfl rfl hc42 ?_
            refine V_call Try.call16 rfl rfl rfl rfl (portref2_isWordByte_c w13 (x44.toNat : Int)) ?_
            rintro _ _ ⟨rfl, rfl⟩
            refine V_y (Y_pick_te rfl hc42 rfl) rfl rfl rfl ?_
            obtain rfl := Option.some.inj hs43
            exact V_end fun a ha => ⟨(), ha.sub ⟨rfl, rfl, rfl, rfl, rfl, trivial⟩, rfl⟩
          · rw [if_neg (nt hc42)] at hs43
            refine V_gn rfl rfl rfl hc42 rfl rfl rfl ?_
            refine V_gn rfl rfl rfl hc42 rfl rfl rfl ?_
            refine V_gn rfl rfl rfl hc42 rfl rfl rfl ?_
            refine V_gn rfl rfl rfl hc42 rfl rfl rfl ?_
            refine V_y (Y_pick_fe rfl hc42 rfl) rfl rfl rfl ?_
            obtain rfl := Option.some.inj hs43
            exact V_end fun a ha => ⟨(), ha.sub ⟨rfl, rfl, rfl, rfl, rfl, trivial⟩, rfl⟩
        simp only [List.take, List.drop]
        rintro _ _ rfl
        refine V_to (fun _ _ => rfl) ?_
        refine C_cond rfl (fun hc45 => ?_) (fun hc45 => ?_)
        · rw [if_pos hc45] at h36
          refine C_skip_to (fun _ _ => rfl) ?_
          refine C_block ?_
          refine C_region ?_
          refine V_y (Y_move rfl) rfl rfl rfl ?_
          refine V_y (Y_addI rfl rfl) rfl rfl rfl ?_
          refine V_y (Y_assign rfl) rfl rfl rfl ?_
          obtain rfl := Option.some.inj h36
          refine V_end (fun a ha46 => ?_)
          exact ⟨w64 (s33 + 1), h37, ⟨(), ha46.sub ⟨rfl, rfl, rfl, rfl, trivial⟩, rfl⟩⟩
        · rw [if_neg (nt hc45)] at h36
          obtain rfl := Option.some.inj h36
          refine C_exit (fun a ha47 => ?_)
          exact ⟨s33, ha47.sub ⟨rfl, rfl, rfl, rfl, trivial⟩, ⟨h37.symm, rfl⟩⟩
      rintro s27 _ ⟨rfl, rfl⟩ a ha32
      rw [Lp.andThen_fin] at h19
      refine C_at (n := ⟨45, [], none⟩) (fun _ _ => rfl) ?_ ha32
      refine C_seq ?_
      refine C_seq ?_
      refine C_region ?_
      refine V_y (Y_move rfl) rfl rfl rfl ?_
      refine V_y (Y_move rfl) rfl rfl rfl ?_
      refine V_y (Y_gtr rfl rfl) rfl rfl rfl ?_
      refine V_y (Y_move rfl) rfl rfl rfl ?_
      refine V_cut 5 (fun _ : Unit => [(0, .string s), (3, v14), (4, .int .i64 s12.2), (5, .int .i64 s27), (31, .bool ((decide (s12.2 < s27)) && (decide ((w64 (s27 - s12.2)) ≤ 30))))]) (fun _ w' => w13 = w') ?_ ?_
      · simp only [List.take, List.drop]
        rcases Bool.eq_false_or_eq_true (decide (s12.2 < s27)) with hc49 | hc49
        · refine V_ge rfl rfl rfl hc49 ?_
          refine V_y (Y_move rfl) rfl rfl rfl ?_
          refine V_ge rfl rfl rfl hc49 ?_
          refine V_y (Y_move rfl) rfl rfl rfl ?_
          refine V_ge rfl rfl rfl hc49 ?_
          refine V_y (Y_subI rfl rfl) rfl rfl rfl ?_
          refine V_ge rfl rfl rfl hc49 ?_
          refine V_y (Y_leq rfl rfl) rfl rfl rfl ?_
          refine V_y (Y_pick_te rfl hc49 rfl) rfl rfl rfl ?_
          exact V_end fun a ha => ⟨(), ha.sub ⟨rfl, rfl, rfl, rfl, (by rw [hc49]; rfl), trivial⟩, rfl⟩
        · refine V_gn rfl rfl rfl hc49 rfl rfl rfl ?_
          refine V_gn rfl rfl rfl hc49 rfl rfl rfl ?_
          refine V_gn rfl rfl rfl hc49 rfl rfl rfl ?_
          refine V_gn rfl rfl rfl hc49 rfl rfl rfl ?_
          refine V_y (Y_pick_fe rfl hc49 rfl) rfl rfl rfl ?_
          exact V_end fun a ha => ⟨(), ha.sub ⟨rfl, rfl, rfl, rfl, (by rw [hc49]; rfl), trivial⟩, rfl⟩
      simp only [List.take, List.drop]
      rintro _ _ rfl
      refine V_to (fun _ _ => rfl) ?_
      obtain ⟨s52, ho51, h19⟩ := Option.bind_eq_some_iff.1 h19
      refine C_cutG (ι := (Value × (Nat → Prop))) (fun ⟨v54, A59⟩ => [(0, .string s), (3, v54), (4, .int .i64 s12.2), (5, .int .i64 s27)]) (fun ⟨v54, A59⟩ => fun w' => Hp w.heap.size A59 w' (obS (α := ByteArray) 9 v54 s52 :: []) ∧ Tr w.heap.size A16 w13 A59 w') ?_ ?_
      · have hr53 : Tr w.heap.size A16 w13 A16 w13 := Tr.refl hA
        refine C_cond rfl (fun hc61 => ?_) (fun hc61 => ?_)
        · rw [if_pos hc61] at ho51
          refine C_region ?_
          refine V_y (Y_move rfl) rfl rfl rfl ?_
          refine V_y (Y_move rfl) rfl rfl rfl ?_
          refine V_y (Y_move rfl) rfl rfl rfl ?_
          refine V_y (Y_move rfl) rfl rfl rfl ?_
          obtain ⟨x62, hx62, ho51⟩ := Option.bind_eq_some_iff.1 ho51
          refine V_y (Y_sliceSLH hx62 Try.underlying9 rfl rfl rfl) rfl rfl rfl ?_
          obtain ⟨x63, hx63, ho51⟩ := Option.bind_eq_some_iff.1 ho51
          refine V_call Try.call17 rfl rfl rfl rfl (portref2_lower_c w13 hA x62 hx63) ?_
          rintro _ w65 ⟨rfl, hk66⟩
          have ht67 := Kp.tr hk66 hA hB
          replace hH := Hp.kp hH hk66
          replace hK := Tr.trans hK ht67
          replace hr3 := Tr.trans hr3 ht67
          replace hr53 := Tr.trans hr53 ht67
          replace hB := Nat.le_trans hB ht67.ex.size
          replace hA := ht67.new
          refine V_buildSlice (l := ([x63] : List ByteArray)) (len := 1) Try.underlying36 Try.sizeOf9 Try.zeroValue9 rfl (by with_unfolding_all rfl) (by decide) (by decide) hA ⟨[.string x63], _, rfl, rfl, rfl⟩ rfl rfl ?_
          intro v68 w69 hk71 h70
          have ht72 := Kp.tr hk71 hA hB
          replace hH := Hp.kp hH hk71
          replace hK := Tr.trans hK ht72
          replace hr3 := Tr.trans hr3 ht72
          replace hr53 := Tr.trans hr53 ht72
          replace hB := Nat.le_trans hB ht72.ex.size
          replace hA := ht72.new
          obtain ⟨x73, hx73, ho51⟩ := Option.bind_eq_some_iff.1 ho51
          refine V_appendH (e := 9) (v := v14) (l := s12.1) (ti := Try.t9) (bytes := 16) (lim := 8796093022208) hH (i := 0) rfl h70 hx73 Try.underlying36 Try_info9 rfl rfl rfl rfl (by decide) (by decide) (by decide) hB hA rfl rfl rfl ?_
          intro v74 w75 A76 hH77 ht78
          replace h70 := Sl.tr h70 ht78
          replace hK := Tr.trans hK ht78
          replace hr3 := Tr.trans hr3 ht78
          replace hr53 := Tr.trans hr53 ht78
          replace hB := Nat.le_trans hB ht78.ex.size
          replace hA := ht78.new
          replace hH : Hp w.heap.size A76 w75 (obS (α := ByteArray) 9 v74 x73 :: []) := hH77
          refine V_y (Y_assign rfl) rfl rfl rfl ?_
          obtain rfl := Option.some.inj ho51
          refine V_end (fun a ha79 => ?_)
          exact ⟨(v74, A76), ha79.sub ⟨rfl, rfl, rfl, rfl, trivial⟩, ⟨hH, hr53⟩⟩
        · rw [if_neg (nt hc61)] at ho51
          obtain rfl := Option.some.inj ho51
          refine C_skip (fun a ha80 => ?_)
          exact ⟨(v14, A16), ha80.sub ⟨rfl, rfl, rfl, rfl, trivial⟩, ⟨hH, hr53⟩⟩
      rintro ⟨v54, A59⟩ w56 ⟨hH60, hk57⟩ a ha58
      replace hK := Tr.trans hK hk57
      replace hr3 := Tr.trans hr3 hk57
      replace hB := Nat.le_trans hB hk57.ex.size
      replace hA := hk57.new
      replace hH : Hp w.heap.size A59 w56 (obS (α := ByteArray) 9 v54 s52 :: []) := hH60
      refine C_at (n := ⟨45, [], none⟩) (fun _ _ => rfl) ?_ ha58
      refine C_region ?_
      refine V_y (Y_move rfl) rfl rfl rfl ?_
      refine V_y (Y_move rfl) rfl rfl rfl ?_
      refine V_y (Y_addI rfl rfl) rfl rfl rfl ?_
      refine V_y (Y_max2 rfl rfl) rfl rfl rfl ?_
      refine V_y (Y_assign rfl) rfl rfl rfl ?_
      obtain rfl := Option.some.inj h19
      refine V_end (fun a ha81 => ?_)
      exact ⟨(s52, (if s27 < w64 (s12.2 + 1) then w64 (s12.2 + 1) else s27)), h20, ⟨(v54, A59), ha81.sub ⟨rfl, rfl, rfl, trivial⟩, ⟨hH, hr3⟩⟩⟩
    · rw [if_neg (nt hc25)] at h19
      obtain rfl := Option.some.inj h19
      refine C_exit (fun a ha82 => ?_)
      exact ⟨((s12.1, s12.2), v14, A16), ha82.sub ⟨rfl, trivial⟩, ⟨h20.symm, hH, hr3⟩⟩
  rintro ⟨s2, v8, A10⟩ w5 ⟨rfl, hH11, hk6⟩ a ha7
  rw [Lp.andThen_fin] at hm
  replace hK := Tr.trans hK hk6
  replace hB := Nat.le_trans hB hk6.ex.size
  replace hA := hk6.new
  replace hH : Hp w.heap.size A10 w5 (obS (α := ByteArray) 9 v8 s2.1 :: []) := hH11
  refine C_at (n := ⟨45, [], none⟩) (fun _ _ => rfl) ?_ ha7
  refine C_seq ?_
  refine C_region ?_
  refine V_y (Y_move rfl) rfl rfl rfl ?_
  refine V_y (Y_assign rfl) rfl rfl rfl ?_
  refine V_to (fun _ _ => rfl) ?_
  obtain rfl := Option.some.inj hm
  refine C_ret ?_
  try simp only [↓inBlock_ret, ↓then_ret]
  exact retQ rfl (Res.one Try.results15 rfl) ⟨v8, rfl, (Hp.ownd hH (i := 0) rfl), hK.kp⟩

set_option maxRecDepth 4000 in
set_option maxHeartbeats 4000000 in
theorem portref2_QueryFault_c (w : World) {A : Nat → Prop} (hA : ∀ b, w.heap.size ≤ b → A b) (q : know_Query) (v_q : Value) (h_q : Sl A w v_q q.parts) {r : (ByteArray × Int)} (hm : portref2_QueryFault q = some r) : Ret Try.prog 9 #[.agg #[v_q]] w fun v w' => v = .tuple #[.string r.1, .int .i64 r.2] ∧ Kp w w' := by
  unfold portref2_QueryFault at hm
  refine enter Try.func9 rfl Try.ntmps9 rfl ?_
  have hA0 := hA
  have hB := Nat.le_refl w.heap.size
  have hK : Tr w.heap.size A w A w := Tr.refl hA
  have hH : Hp w.heap.size A w [] := Hp.nil
  refine C_seq ?_
  refine C_region ?_
  refine V_box rfl rfl ?_
  intro b3 w4 h5
  have hk7 := h5.kp
  have h6 : El (α := know_Query) A w4 b3 0 q := h5.el hA ⟨_, rfl, h_q⟩
  have ht8 := Kp.tr hk7 hA hB
  replace hH := Hp.kp hH hk7
  replace h_q := Sl.tr h_q ht8
  replace hK := Tr.trans hK ht8
  replace hB := Nat.le_trans hB ht8.ex.size
  replace hA := ht8.new
  refine V_y (Y_assign rfl) rfl rfl rfl ?_
  refine V_y (Y_assign rfl) rfl rfl rfl ?_
  refine V_to (fun _ _ => rfl) ?_
  refine C_seq ?_
  refine C_seq ?_
  refine C_region ?_
  have h9 := El_know_Query_0 h6
  refine V_y (Y_fieldAddr Try.underlying24 rfl Try.sizeOf22 (by decide) rfl) rfl rfl rfl ?_
  obtain ⟨v10, h11, h12⟩ := El.list h9
  refine V_y (Y_load h11 Try.isAgg22 rfl) rfl rfl rfl ?_
  refine V_y (Y_lenSl h12 rfl Try.underlying22 rfl) rfl rfl rfl ?_
  refine V_y (Y_gtr rfl rfl) rfl rfl rfl ?_
  refine V_to (fun _ _ => rfl) ?_
  refine C_cond rfl (fun hc13 => ?_) (fun hc13 => ?_)
  · rw [if_pos hc13] at hm
    refine C_seq ?_
    refine C_region ?_
    refine V_y (Y_assign rfl) rfl rfl rfl ?_
    refine V_y (Y_assign rfl) rfl rfl rfl ?_
    refine V_to (fun _ _ => rfl) ?_
    obtain rfl := Option.some.inj hm
    refine C_ret ?_
    try simp only [↓inBlock_ret, ↓then_ret]
    exact retQ rfl (Res.two Try.results9 rfl rfl) ⟨rfl, hK.kp⟩
  · rw [if_neg (nt hc13)] at hm
    refine C_skip_to (fun _ _ => rfl) ?_
    refine C_seq ?_
    refine C_region ?_
    refine V_y (Y_assign rfl) rfl rfl rfl ?_
    refine V_to (fun _ _ => rfl) ?_
    refine C_seq ?_
    refine C_seq ?_
    refine C_region ?_
    have h14 := El_know_Query_0 h6
    refine V_y (Y_fieldAddr Try.underlying24 rfl Try.sizeOf22 (by decide) rfl) rfl rfl rfl ?_
    obtain ⟨v15, h16, h17⟩ := El.list h14
    refine V_y (Y_load h16 Try.isAgg22 rfl) rfl rfl rfl ?_
    refine V_y (Y_lenSl h17 rfl Try.underlying22 rfl) rfl rfl rfl ?_
    refine V_y (Y_move rfl) rfl rfl rfl ?_
    refine V_to (fun _ _ => rfl) ?_
    replace hH : Hp w.heap.size A w4 (obS (α := ByteArray) 9 (.slice none 0 0) ([] : (List ByteArray)) :: []) := Hp.addNil (α := ByteArray) (e := 9) hH
    have hn42 := Sl.le h17
    obtain ⟨o18, ho18, hm⟩ := Option.bind_eq_some_iff.1 hm
    refine C_cutG (ι := ((List ByteArray) × Value × (Nat → Prop))) (fun ⟨s19, v25, A27⟩ => [(4, v25)]) (fun ⟨s19, v25, A27⟩ => fun w' => o18 = .fin s19 ∧ Hp w.heap.size A27 w' (obS (α := ByteArray) 9 v25 s19 :: []) ∧ Tr w.heap.size A w4 A27 w') ?_ ?_
    · refine C_block ?_
      refine C_range ho18 (fun k21 s29 a w' => ∃ i : (Value × (Nat → Prop)), Has ⟨97, [], none⟩ a ([(4, i.1), (17, v15), (18, .int .i64 (q.parts.length : Int)), (19, .int .i64 (k21 : Int))]) ∧ Hp w.heap.size i.2 w' (obS (α := ByteArray) 9 i.1 s29 :: []) ∧ Tr w.heap.size A w4 i.2 w') (fun a ha => ⟨(.slice none 0 0, A), ha.sub ⟨rfl, rfl, rfl, rfl, trivial⟩, ⟨hH, Tr.refl hA⟩⟩) ?_
      rintro K k21 s29 a w30 ⟨⟨v31, A33⟩, ha192, hH34, hr20⟩ hle38 K41 h40
      refine C_of ?_ ha192
      replace h17 := Sl.tr h17 hr20
      replace hK := Tr.trans hK hr20
      replace hB := Nat.le_trans hB hr20.ex.size
      replace hA := hr20.new
      replace hH : Hp w.heap.size A33 w30 (obS (α := ByteArray) 9 v31 s29 :: []) := hH34
      refine C_seq (C_region (V_y (Y_lss rfl rfl) rfl rfl rfl (V_to (fun _ _ => rfl) ?_)))
      refine C_seq ?_
      refine C_cond rfl (fun hc43 => ?_) (fun hc43 => ?_)
      · have hlt39 := lt_of_dec hc43
        obtain ⟨x35, h36, h37⟩ := K41 hlt39
        refine C_skip_to (fun _ _ => rfl) ?_
        refine C_seq ?_
        refine C_block ?_
        refine C_seq ?_
        refine C_region ?_
        obtain ⟨x44, hx44, h36⟩ := Option.bind_eq_some_iff.1 h36
        refine V_indexAddr h17 hx44 Try.underlying22 Try.sizeOf38 rfl rfl rfl ?_
        intro b45 o46 h47
        obtain ⟨v48, h50, h49⟩ := El_know_Part h47
        refine V_y (Y_loadA h50 Try.isAgg38 Try.sizeOf38 rfl) rfl rfl rfl ?_
        refine V_alloc Try.zeroValue38 rfl ?_
        intro b51 w52 h53
        have h58 : (v48).oneCell' = true := by obtain ⟨_, _, e, _⟩ := Sl.form h49; rw [e]; rfl
        refine V_storeNew h53 Try.sizeOf38 rfl rfl rfl rfl (by exact (List.forall_mem_cons.2 ⟨rfl, (List.forall_mem_cons.2 ⟨rfl, (List.forall_mem_cons.2 ⟨h58, (fun _ h => nomatch h)⟩)⟩)⟩)) ?_
        intro w54 h55
        have hk60 := h55.kp
        have h59 : El (α := know_Part) A33 w54 b51 0 x44 := h55.el hA ⟨[.int .i64 x44.kind], _, rfl, rfl, ⟨[.bool x44.not], _, rfl, rfl, ⟨_, rfl, h49⟩⟩⟩
        have ht61 := Kp.tr hk60 hA hB
        replace hH := Hp.kp hH hk60
        replace h17 := Sl.tr h17 ht61
        replace h47 := El.tr h47 ht61
        replace h49 := Sl.tr h49 ht61
        replace hK := Tr.trans hK ht61
        replace hr20 := Tr.trans hr20 ht61
        replace hB := Nat.le_trans hB ht61.ex.size
        replace hA := ht61.new
        refine V_to (fun _ _ => rfl) ?_
        refine C_seq ?_
        refine C_seq ?_
        refine C_region ?_
        have h62 := El_know_Part_0 h59
        refine V_y (Y_fieldAddr Try.underlying38 rfl Try.sizeOf3 (by decide) rfl) rfl rfl rfl ?_
        refine V_y (Y_load (El.int h62) Try.isAgg3 rfl) rfl rfl rfl ?_
        refine V_y (Y_lss rfl rfl) rfl rfl rfl ?_
        refine V_y (Y_move rfl) rfl rfl rfl ?_
        refine V_cut 4 (fun _ : Unit => [(4, v31), (6, .pointer (some ⟨b51, 0, none⟩)), (17, v15), (18, .int .i64 (q.parts.length : Int)), (19, .int .i64 (k21 : Int)), (30, .bool ((decide (x44.kind < 0)) || (decide ((2 : Int) < x44.kind))))]) (fun _ w' => w54 = w') ?_ ?_
        · simp only [List.take, List.drop]
          rcases Bool.eq_false_or_eq_true (decide (x44.kind < 0)) with hc63 | hc63
          · refine V_gn rfl rfl rfl hc63 rfl rfl rfl ?_
            refine V_gn rfl rfl rfl hc63 rfl rfl rfl ?_
            refine V_gn rfl rfl rfl hc63 rfl rfl rfl ?_
            refine V_y (Y_pick_te rfl hc63 rfl) rfl rfl rfl ?_
            exact V_end fun a ha => ⟨(), ha.sub ⟨rfl, rfl, rfl, rfl, rfl, (by rw [hc63]; rfl), trivial⟩, rfl⟩
          · refine V_ge rfl rfl rfl hc63 ?_
            have h65 := El_know_Part_0 h59
            refine V_y (Y_fieldAddr Try.underlying38 rfl Try.sizeOf3 (by decide) rfl) rfl rfl rfl ?_
            refine V_ge rfl rfl rfl hc63 ?_
            refine V_y (Y_load (El.int h65) Try.isAgg3 rfl) rfl rfl rfl ?_
            refine V_ge rfl rfl rfl hc63 ?_
            refine V_y (Y_gtr rfl rfl) rfl rfl rfl ?_
            refine V_y (Y_pick_fe rfl hc63 rfl) rfl rfl rfl ?_
            exact V_end fun a ha => ⟨(), ha.sub ⟨rfl, rfl, rfl, rfl, rfl, (by rw [hc63]; rfl), trivial⟩, rfl⟩
        simp only [List.take, List.drop]
        rintro _ _ rfl
        refine V_y (Y_move rfl) rfl rfl rfl ?_
        refine V_cut 5 (fun _ : Unit => [(4, v31), (6, .pointer (some ⟨b51, 0, none⟩)), (17, v15), (18, .int .i64 (q.parts.length : Int)), (19, .int .i64 (k21 : Int)), (36, .bool (((decide (x44.kind < 0)) || (decide ((2 : Int) < x44.kind))) || ((x44.words.length : Int) == 0)))]) (fun _ w' => w54 = w') ?_ ?_
        · simp only [List.take, List.drop]
          rcases Bool.eq_false_or_eq_true (((decide (x44.kind < 0)) || (decide ((2 : Int) < x44.kind)))) with hc66 | hc66
          · refine V_gn rfl rfl rfl hc66 rfl rfl rfl ?_
            refine V_gn rfl rfl rfl hc66 rfl rfl rfl ?_
            refine V_gn rfl rfl rfl hc66 rfl rfl rfl ?_
            refine V_gn rfl rfl rfl hc66 rfl rfl rfl ?_
            refine V_y (Y_pick_te rfl hc66 rfl) rfl rfl rfl ?_
            exact V_end fun a ha => ⟨(), ha.sub ⟨rfl, rfl, rfl, rfl, rfl, (by rw [hc66]; rfl), trivial⟩, rfl⟩
          · refine V_ge rfl rfl rfl hc66 ?_
            have h68 := El_know_Part_2 h59
            refine V_y (Y_fieldAddr Try.underlying38 rfl Try.sizeOf36 (by decide) rfl) rfl rfl rfl ?_
            refine V_ge rfl rfl rfl hc66 ?_
            obtain ⟨v69, h70, h71⟩ := El.list h68
            refine V_y (Y_load h70 Try.isAgg36 rfl) rfl rfl rfl ?_
            refine V_ge rfl rfl rfl hc66 ?_
            refine V_y (Y_lenSl h71 rfl Try.underlying36 rfl) rfl rfl rfl ?_
            refine V_ge rfl rfl rfl hc66 ?_
            refine V_y (Y_eql rfl rfl) rfl rfl rfl ?_
            refine V_y (Y_pick_fe rfl hc66 rfl) rfl rfl rfl ?_
            exact V_end fun a ha => ⟨(), ha.sub ⟨rfl, rfl, rfl, rfl, rfl, (by rw [hc66]; rfl), trivial⟩, rfl⟩
        simp only [List.take, List.drop]
        rintro _ _ rfl
        refine V_y (Y_move rfl) rfl rfl rfl ?_
        refine V_cut 10 (fun _ : Unit => [(4, v31), (6, .pointer (some ⟨b51, 0, none⟩)), (17, v15), (18, .int .i64 (q.parts.length : Int)), (19, .int .i64 (k21 : Int)), (47, .bool ((((decide (x44.kind < 0)) || (decide ((2 : Int) < x44.kind))) || ((x44.words.length : Int) == 0)) || ((x44.kind != 1) && ((x44.words.length : Int) != 1))))]) (fun _ w' => w54 = w') ?_ ?_
        · simp only [List.take, List.drop]
          rcases Bool.eq_false_or_eq_true ((((decide (x44.kind < 0)) || (decide ((2 : Int) < x44.kind))) || ((x44.words.length : Int) == 0))) with hc72 | hc72
          · refine V_gn rfl rfl rfl hc72 rfl rfl rfl ?_
            refine V_gn rfl rfl rfl hc72 rfl rfl rfl ?_
            refine V_gn rfl rfl rfl hc72 rfl rfl rfl ?_
            refine V_gn rfl rfl rfl hc72 rfl rfl rfl ?_
            refine V_gu rfl rfl rfl rfl rfl ?_
            refine V_gu rfl rfl rfl rfl rfl ?_
            refine V_gu rfl rfl rfl rfl rfl ?_
            refine V_gu rfl rfl rfl rfl rfl ?_
            refine V_gn rfl rfl rfl hc72 rfl rfl rfl ?_
            refine V_y (Y_pick_te rfl hc72 rfl) rfl rfl rfl ?_
            exact V_end fun a ha => ⟨(), ha.sub ⟨rfl, rfl, rfl, rfl, rfl, (by rw [hc72]; rfl), trivial⟩, rfl⟩
          · refine V_ge rfl rfl rfl hc72 ?_
            have h74 := El_know_Part_0 h59
            refine V_y (Y_fieldAddr Try.underlying38 rfl Try.sizeOf3 (by decide) rfl) rfl rfl rfl ?_
            refine V_ge rfl rfl rfl hc72 ?_
            refine V_y (Y_load (El.int h74) Try.isAgg3 rfl) rfl rfl rfl ?_
            refine V_ge rfl rfl rfl hc72 ?_
            refine V_y (Y_neq rfl rfl) rfl rfl rfl ?_
            refine V_ge rfl rfl rfl hc72 ?_
            refine V_y (Y_move rfl) rfl rfl rfl ?_
            refine V_cut 5 (fun _ : Unit => [(4, v31), (6, .pointer (some ⟨b51, 0, none⟩)), (17, v15), (18, .int .i64 (q.parts.length : Int)), (19, .int .i64 (k21 : Int)), (37, .bool (((decide (x44.kind < 0)) || (decide ((2 : Int) < x44.kind))) || ((x44.words.length : Int) == 0))), (46, .bool ((x44.kind != 1) && ((x44.words.length : Int) != 1)))]) (fun _ w' => w54 = w') ?_ ?_
            · simp only [List.take, List.drop]
              rcases Bool.eq_false_or_eq_true (x44.kind != 1) with hc75 | hc75
              · refine V_ge rfl rfl rfl hc75 ?_
                have h77 := El_know_Part_2 h59
                refine V_y (Y_fieldAddr Try.underlying38 rfl Try.sizeOf36 (by decide) rfl) rfl rfl rfl ?_
                refine V_ge rfl rfl rfl hc75 ?_
                obtain ⟨v78, h79, h80⟩ := El.list h77
                refine V_y (Y_load h79 Try.isAgg36 rfl) rfl rfl rfl ?_
                refine V_ge rfl rfl rfl hc75 ?_
                refine V_y (Y_lenSl h80 rfl Try.underlying36 rfl) rfl rfl rfl ?_
                refine V_ge rfl rfl rfl hc75 ?_
                refine V_y (Y_neq rfl rfl) rfl rfl rfl ?_
                refine V_ge rfl rfl rfl hc72 ?_
                refine V_y (Y_pick_te rfl hc75 rfl) rfl rfl rfl ?_
                exact V_end fun a ha => ⟨(), ha.sub ⟨rfl, rfl, rfl, rfl, rfl, rfl, (by rw [hc75]; rfl), trivial⟩, rfl⟩
              · refine V_gn rfl rfl rfl hc75 rfl rfl rfl ?_
                refine V_gn rfl rfl rfl hc75 rfl rfl rfl ?_
                refine V_gn rfl rfl rfl hc75 rfl rfl rfl ?_
                refine V_gn rfl rfl rfl hc75 rfl rfl rfl ?_
                refine V_ge rfl rfl rfl hc72 ?_
                refine V_y (Y_pick_fe rfl hc75 rfl) rfl rfl rfl ?_
                exact V_end fun a ha => ⟨(), ha.sub ⟨rfl, rfl, rfl, rfl, rfl, rfl, (by rw [hc75]; rfl), trivial⟩, rfl⟩
            simp only [List.take, List.drop]
            rintro _ _ rfl
            refine V_y (Y_pick_fe rfl hc72 rfl) rfl rfl rfl ?_
            exact V_end fun a ha => ⟨(), ha.sub ⟨rfl, rfl, rfl, rfl, rfl, (by rw [hc72]; rfl), trivial⟩, rfl⟩
        simp only [List.take, List.drop]
        rintro _ _ rfl
        refine V_to (fun _ _ => rfl) ?_
        refine C_cond rfl (fun hc81 => ?_) (fun hc81 => ?_)
        · rw [if_pos hc81] at h36
          refine C_seq ?_
          refine C_region ?_
          refine V_y (Y_assign rfl) rfl rfl rfl ?_
          refine V_y (Y_assign rfl) rfl rfl rfl ?_
          refine V_to (fun _ _ => rfl) ?_
          obtain rfl := Option.some.inj h36
          obtain rfl := (h37 : Lp.rt _ = _)
          rw [Lp.andThen_rt] at hm
          obtain rfl := Option.some.inj hm
          refine C_ret ?_
          try simp only [↓inBlock_ret, ↓then_ret]
          exact retQ rfl (Res.two Try.results9 rfl rfl) ⟨rfl, hK.kp⟩
        · rw [if_neg (nt hc81)] at h36
          refine C_skip_to (fun _ _ => rfl) ?_
          refine C_seq ?_
          refine C_seq ?_
          refine C_region ?_
          have h82 := El_know_Part_2 h59
          refine V_y (Y_fieldAddr Try.underlying38 rfl Try.sizeOf36 (by decide) rfl) rfl rfl rfl ?_
          obtain ⟨v83, h84, h85⟩ := El.list h82
          refine V_y (Y_load h84 Try.isAgg36 rfl) rfl rfl rfl ?_
          refine V_y (Y_lenSl h85 rfl Try.underlying36 rfl) rfl rfl rfl ?_
          refine V_y (Y_move rfl) rfl rfl rfl ?_
          refine V_to (fun _ _ => rfl) ?_
          have hn106 := Sl.le h85
          obtain ⟨o86, ho86, h36⟩ := Option.bind_eq_some_iff.1 h36
          refine C_cutG (ι := (Unit × (Nat → Prop))) (fun ⟨s87, A93⟩ => [(4, v31), (6, .pointer (some ⟨b51, 0, none⟩)), (17, v15), (18, .int .i64 (q.parts.length : Int)), (19, .int .i64 (k21 : Int))]) (fun ⟨s87, A93⟩ => fun w' => o86 = .fin s87 ∧ Hp w.heap.size A93 w' (obS (α := ByteArray) 9 v31 s29 :: []) ∧ Tr w.heap.size A33 w54 A93 w') ?_ ?_
          · refine C_block ?_
            refine C_range ho86 (fun k89 _ a w' => ∃ i : (Nat → Prop), Has ⟨97, [], none⟩ a ([(4, v31), (6, .pointer (some ⟨b51, 0, none⟩)), (17, v15), (18, .int .i64 (q.parts.length : Int)), (19, .int .i64 (k21 : Int)), (49, v83), (50, .int .i64 (x44.words.length : Int)), (51, .int .i64 (k89 : Int))]) ∧ Hp w.heap.size i w' (obS (α := ByteArray) 9 v31 s29 :: []) ∧ Tr w.heap.size A33 w54 i w') (fun a ha => ⟨A33, ha.sub ⟨rfl, rfl, rfl, rfl, rfl, rfl, rfl, rfl, trivial⟩, ⟨hH, Tr.refl hA⟩⟩) ?_
            rintro K k89 _ a w96 ⟨A97, ha130, hH98, hr88⟩ hle102 K105 h104
            refine C_of ?_ ha130
            replace h17 := Sl.tr h17 hr88
            replace h59 := El.tr h59 hr88
            replace h85 := Sl.tr h85 hr88
            replace hK := Tr.trans hK hr88
            replace hr20 := Tr.trans hr20 hr88
            replace hB := Nat.le_trans hB hr88.ex.size
            replace hA := hr88.new
            replace hH : Hp w.heap.size A97 w96 (obS (α := ByteArray) 9 v31 s29 :: []) := hH98
            refine C_seq (C_region (V_y (Y_lss rfl rfl) rfl rfl rfl (V_to (fun _ _ => rfl) ?_)))
            refine C_seq ?_
            refine C_cond rfl (fun hc107 => ?_) (fun hc107 => ?_)
            · have hlt103 := lt_of_dec hc107
              obtain ⟨x99, h100, h101⟩ := K105 hlt103
              refine C_skip_to (fun _ _ => rfl) ?_
              refine C_seq ?_
              refine C_block ?_
              refine C_seq ?_
              refine C_region ?_
              obtain ⟨x108, hx108, h100⟩ := Option.bind_eq_some_iff.1 h100
              refine V_indexAddr h85 hx108 Try.underlying36 Try.sizeOf9 rfl rfl rfl ?_
              intro b109 o110 h111
              refine V_y (Y_load (El.str h111) Try.isAgg9 rfl) rfl rfl rfl ?_
              refine V_y (Y_assign rfl) rfl rfl rfl ?_
              refine V_to (fun _ _ => rfl) ?_
              refine C_seq ?_
              refine C_region ?_
              refine V_y (Y_move rfl) rfl rfl rfl ?_
              obtain ⟨x112, hx112, h100⟩ := Option.bind_eq_some_iff.1 h100
              refine V_call Try.call15 rfl rfl rfl rfl (portref2_WordsOf_c w96 hA x108 hx112) ?_
              rintro v113 w115 ⟨_, rfl, h114, hk116⟩
              obtain ⟨A117, ht118, hH119⟩ := Hp.addOwnd hH hB hA hk116 h114
              replace h17 := Sl.tr h17 ht118
              replace h59 := El.tr h59 ht118
              replace h85 := Sl.tr h85 ht118
              replace hK := Tr.trans hK ht118
              replace hr20 := Tr.trans hr20 ht118
              replace hr88 := Tr.trans hr88 ht118
              replace hB := Nat.le_trans hB ht118.ex.size
              replace hA := ht118.new
              replace hH : Hp w.heap.size A117 w115 (obS (α := ByteArray) 9 v113 x112 :: obS (α := ByteArray) 9 v31 s29 :: []) := hH119
              refine V_y (Y_assign rfl) rfl rfl rfl ?_
              refine V_to (fun _ _ => rfl) ?_
              refine C_seq ?_
              refine C_region ?_
              refine V_y (Y_move rfl) rfl rfl rfl ?_
              refine V_y (Y_lenSl (Hp.any (α := ByteArray) (e := 9) (v := v113) (l := x112) hH (i := 0) rfl) rfl Try.underlying36 rfl) rfl rfl rfl ?_
              refine V_y (Y_neq rfl rfl) rfl rfl rfl ?_
              refine V_y (Y_move rfl) rfl rfl rfl ?_
              obtain ⟨s121, hs121, h100⟩ := Option.bind_eq_some_iff.1 h100
              refine V_cut 6 (fun _ : Unit => [(4, v31), (6, .pointer (some ⟨b51, 0, none⟩)), (17, v15), (18, .int .i64 (q.parts.length : Int)), (19, .int .i64 (k21 : Int)), (49, v83), (50, .int .i64 (x44.words.length : Int)), (51, .int .i64 (k89 : Int)), (66, .bool s121)]) (fun _ w' => w115 = w') ?_ ?_
              · simp only [List.take, List.drop]
                rcases Bool.eq_false_or_eq_true ((x112.length : Int) != 1) with hc120 | hc120
                · rw [if_pos hc120] at hs121
                  refine V_gn rfl rfl rfl hc120 rfl rfl rfl ?_
                  refine V_gn rfl rfl rfl hc120 rfl rfl rfl ?_
                  refine V_gn rfl rfl rfl hc120 rfl rfl rfl ?_
                  refine V_gn rfl rfl rfl hc120 rfl rfl rfl ?_
                  refine V_gn rfl rfl rfl hc120 rfl rfl rfl ?_
                  refine V_y (Y_pick_te rfl hc120 rfl) rfl rfl rfl ?_
                  obtain rfl := Option.some.inj hs121
                  exact V_end fun a ha => ⟨(), ha.sub ⟨rfl, rfl, rfl, rfl, rfl, rfl, rfl, rfl, rfl, trivial⟩, rfl⟩
                · rw [if_neg (nt hc120)] at hs121
                  refine V_ge rfl rfl rfl hc120 ?_
                  refine V_y (Y_move rfl) rfl rfl rfl ?_
                  refine V_ge rfl rfl rfl hc120 ?_
                  obtain ⟨x122, hx122, hs121⟩ := Option.bind_eq_some_iff.1 hs121
                  refine V_indexAddrH (α := ByteArray) (e := 9) (v := v113) (l := x112) hH (i := 0) rfl hx122 Try.underlying36 Try.sizeOf9 rfl rfl rfl ?_
                  intro b123 o124 h125 hl126
                  refine V_ge rfl rfl rfl hc120 ?_
                  refine V_y (Y_load (El.str h125) Try.isAgg9 rfl) rfl rfl rfl ?_
                  refine V_ge rfl rfl rfl hc120 ?_
                  refine V_y (Y_move rfl) rfl rfl rfl ?_
                  refine V_ge rfl rfl rfl hc120 ?_
                  refine V_y (Y_sneq rfl rfl) rfl rfl rfl ?_
                  refine V_y (Y_pick_fe rfl hc120 rfl) rfl rfl rfl ?_
                  obtain rfl := Option.some.inj hs121
                  exact V_end fun a ha => ⟨(), ha.sub ⟨rfl, rfl, rfl, rfl, rfl, rfl, rfl, rfl, rfl, trivial⟩, rfl⟩
              simp only [List.take, List.drop]
              rintro _ _ rfl
              refine V_to (fun _ _ => rfl) ?_
              refine C_cond rfl (fun hc127 => ?_) (fun hc127 => ?_)
              · rw [if_pos hc127] at h100
                refine C_seq ?_
                refine C_region ?_
                refine V_y (Y_assign rfl) rfl rfl rfl ?_
                refine V_y (Y_assign rfl) rfl rfl rfl ?_
                refine V_to (fun _ _ => rfl) ?_
                obtain rfl := Option.some.inj h100
                obtain rfl := (h101 : Lp.rt _ = _)
                rw [Lp.andThen_rt] at h36
                obtain rfl := Option.some.inj h36
                obtain rfl := (h37 : Lp.rt _ = _)
                rw [Lp.andThen_rt] at hm
                obtain rfl := Option.some.inj hm
                refine C_ret ?_
                try simp only [↓inBlock_ret, ↓then_ret]
                exact retQ rfl (Res.two Try.results9 rfl rfl) ⟨rfl, hK.kp⟩
              · rw [if_neg (nt hc127)] at h100
                refine C_skip_to (fun _ _ => rfl) ?_
                refine C_region ?_
                refine V_y (Y_addI rfl rfl) rfl rfl rfl ?_
                refine V_y (Y_move rfl) rfl rfl rfl ?_
                obtain rfl := Option.some.inj h100
                refine V_end (fun a ha128 => ?_)
                replace hH : Hp w.heap.size A117 w115 (obS (α := ByteArray) 9 v31 s29 :: obS (α := ByteArray) 9 v113 x112 :: []) := Hp.front hH (i := 1) rfl
                replace hH : Hp w.heap.size A117 w115 (obS (α := ByteArray) 9 v31 s29 :: []) := Hp.drop hH (i := 1) rfl
                exact ⟨(), hlt103, h101, ⟨A117, ha128.sub ⟨rfl, rfl, rfl, rfl, rfl, rfl, rfl, (congrArg (fun z => some (Value.int .i64 z)) (w64_succ hlt103 hn106)), trivial⟩, ⟨hH, hr88⟩⟩⟩
            · refine C_exit (fun a ha129 => ?_)
              exact ⟨((), A97), ha129.sub ⟨rfl, rfl, rfl, rfl, rfl, trivial⟩, ⟨(h104 (eq_of_dec hle102 hc107)).symm, hH, hr88⟩⟩
          rintro ⟨s87, A93⟩ w90 ⟨rfl, hH94, hk91⟩ a ha92
          rw [Lp.andThen_fin] at h36
          replace h17 := Sl.tr h17 hk91
          replace h59 := El.tr h59 hk91
          replace hK := Tr.trans hK hk91
          replace hr20 := Tr.trans hr20 hk91
          replace hB := Nat.le_trans hB hk91.ex.size
          replace hA := hk91.new
          replace hH : Hp w.heap.size A93 w90 (obS (α := ByteArray) 9 v31 s29 :: []) := hH94
          refine C_at (n := ⟨97, [], none⟩) (fun _ _ => rfl) ?_ ha92
          refine C_seq ?_
          refine C_region ?_
          have h131 := El_know_Part_2 h59
          refine V_y (Y_fieldAddr Try.underlying38 rfl Try.sizeOf36 (by decide) rfl) rfl rfl rfl ?_
          obtain ⟨v132, h133, h134⟩ := El.list h131
          refine V_y (Y_load h133 Try.isAgg36 rfl) rfl rfl rfl ?_
          obtain ⟨x135, hx135, h36⟩ := Option.bind_eq_some_iff.1 h36
          refine V_call Try.call51 rfl rfl rfl rfl (strings_Join_c w90 hA x44.words v132 h134 (⟨#[32]⟩ : ByteArray) hx135) ?_
          rintro _ w136 ⟨rfl, hk137⟩
          have ht138 := Kp.tr hk137 hA hB
          replace hH := Hp.kp hH hk137
          replace h17 := Sl.tr h17 ht138
          replace h59 := El.tr h59 ht138
          replace h131 := El.tr h131 ht138
          replace h134 := Sl.tr h134 ht138
          replace hK := Tr.trans hK ht138
          replace hr20 := Tr.trans hr20 ht138
          replace hB := Nat.le_trans hB ht138.ex.size
          replace hA := ht138.new
          refine V_y (Y_assign rfl) rfl rfl rfl ?_
          refine V_to (fun _ _ => rfl) ?_
          refine C_seq ?_
          refine C_seq ?_
          refine C_region ?_
          have h139 := El_know_Part_0 h59
          refine V_y (Y_fieldAddr Try.underlying38 rfl Try.sizeOf3 (by decide) rfl) rfl rfl rfl ?_
          refine V_y (Y_load (El.int h139) Try.isAgg3 rfl) rfl rfl rfl ?_
          refine V_to (fun _ _ => rfl) ?_
          obtain ⟨s141, ho140, h36⟩ := Option.bind_eq_some_iff.1 h36
          refine C_cutG (ι := Unit) (fun (_ : Unit) => [(4, v31), (6, .pointer (some ⟨b51, 0, none⟩)), (10, .string s141), (17, v15), (18, .int .i64 (q.parts.length : Int)), (19, .int .i64 (k21 : Int))]) (fun (_ : Unit) => fun w' => w136 = w') ?_ ?_
          · refine C_block ?_
            refine C_seq ?_
            refine C_region ?_
            refine V_y (Y_eql rfl rfl) rfl rfl rfl ?_
            refine V_y (Y_assign rfl) rfl rfl rfl ?_
            refine V_to (fun _ _ => rfl) ?_
            obtain ⟨s147, ho146, ho140⟩ := Option.bind_eq_some_iff.1 ho140
            refine C_cutG (ι := Unit) (fun (_ : Unit) => [(4, v31), (6, .pointer (some ⟨b51, 0, none⟩)), (10, .string s147), (17, v15), (18, .int .i64 (q.parts.length : Int)), (19, .int .i64 (k21 : Int))]) (fun (_ : Unit) => fun w' => w136 = w') ?_ ?_
            · refine C_cond rfl (fun hc152 => ?_) (fun hc152 => ?_)
              · rw [if_pos hc152] at ho146
                refine C_region ?_
                refine V_y (Y_move rfl) rfl rfl rfl ?_
                obtain ⟨x153, hx153, ho146⟩ := Option.bind_eq_some_iff.1 ho146
                refine V_y (Y_sadd hx153 rfl rfl) rfl rfl rfl ?_
                obtain ⟨x154, hx154, ho146⟩ := Option.bind_eq_some_iff.1 ho146
                refine V_y (Y_sadd hx154 rfl rfl) rfl rfl rfl ?_
                refine V_y (Y_assign rfl) rfl rfl rfl ?_
                obtain rfl := Option.some.inj ho146
                refine V_end (fun a ha155 => ?_)
                exact ⟨(), ha155.sub ⟨rfl, rfl, rfl, rfl, rfl, rfl, trivial⟩, rfl⟩
              · rw [if_neg (nt hc152)] at ho146
                refine C_seq ?_
                refine C_region ?_
                refine V_y (Y_eql rfl rfl) rfl rfl rfl ?_
                refine V_y (Y_assign rfl) rfl rfl rfl ?_
                refine V_to (fun _ _ => rfl) ?_
                obtain ⟨s157, ho156, ho146⟩ := Option.bind_eq_some_iff.1 ho146
                refine C_cutG (ι := Unit) (fun (_ : Unit) => [(4, v31), (6, .pointer (some ⟨b51, 0, none⟩)), (10, .string s157), (17, v15), (18, .int .i64 (q.parts.length : Int)), (19, .int .i64 (k21 : Int))]) (fun (_ : Unit) => fun w' => w136 = w') ?_ ?_
                · refine C_cond rfl (fun hc162 => ?_) (fun hc162 => ?_)
                  · rw [if_pos hc162] at ho156
                    refine C_region ?_
                    refine V_y (Y_move rfl) rfl rfl rfl ?_
                    obtain ⟨x163, hx163, ho156⟩ := Option.bind_eq_some_iff.1 ho156
                    refine V_y (Y_sadd hx163 rfl rfl) rfl rfl rfl ?_
                    refine V_y (Y_assign rfl) rfl rfl rfl ?_
                    obtain rfl := Option.some.inj ho156
                    refine V_end (fun a ha164 => ?_)
                    exact ⟨(), ha164.sub ⟨rfl, rfl, rfl, rfl, rfl, rfl, trivial⟩, rfl⟩
                  · rw [if_neg (nt hc162)] at ho156
                    obtain rfl := Option.some.inj ho156
                    refine C_skip (fun a ha165 => ?_)
                    exact ⟨(), ha165.sub ⟨rfl, rfl, rfl, rfl, rfl, rfl, trivial⟩, rfl⟩
                rintro _ _ rfl a ha161
                obtain rfl := Option.some.inj ho146
                exact ⟨(), ha161.sub ⟨rfl, rfl, rfl, rfl, rfl, rfl, trivial⟩, rfl⟩
            rintro _ _ rfl a ha151
            obtain rfl := Option.some.inj ho140
            exact ⟨(), ha151.sub ⟨rfl, rfl, rfl, rfl, rfl, rfl, trivial⟩, rfl⟩
          rintro _ _ rfl a ha145
          refine C_at (n := ⟨97, [], none⟩) (fun _ _ => rfl) ?_ ha145
          refine C_seq ?_
          refine C_seq ?_
          refine C_region ?_
          have h168 := El_know_Part_1 h59
          refine V_y (Y_fieldAddr Try.underlying38 rfl Try.sizeOf4 (by decide) rfl) rfl rfl rfl ?_
          refine V_y (Y_load (El.bool h168) Try.isAgg4 rfl) rfl rfl rfl ?_
          refine V_to (fun _ _ => rfl) ?_
          obtain ⟨s170, ho169, h36⟩ := Option.bind_eq_some_iff.1 h36
          refine C_cutG (ι := Unit) (fun (_ : Unit) => [(4, v31), (10, .string s170), (17, v15), (18, .int .i64 (q.parts.length : Int)), (19, .int .i64 (k21 : Int))]) (fun (_ : Unit) => fun w' => w136 = w') ?_ ?_
          · refine C_cond rfl (fun hc175 => ?_) (fun hc175 => ?_)
            · rw [if_pos hc175] at ho169
              refine C_region ?_
              refine V_y (Y_move rfl) rfl rfl rfl ?_
              obtain ⟨x176, hx176, ho169⟩ := Option.bind_eq_some_iff.1 ho169
              refine V_y (Y_sadd hx176 rfl rfl) rfl rfl rfl ?_
              refine V_y (Y_assign rfl) rfl rfl rfl ?_
              obtain rfl := Option.some.inj ho169
              refine V_end (fun a ha177 => ?_)
              exact ⟨(), ha177.sub ⟨rfl, rfl, rfl, rfl, rfl, trivial⟩, rfl⟩
            · rw [if_neg (nt hc175)] at ho169
              obtain rfl := Option.some.inj ho169
              refine C_skip (fun a ha178 => ?_)
              exact ⟨(), ha178.sub ⟨rfl, rfl, rfl, rfl, rfl, trivial⟩, rfl⟩
          rintro _ _ rfl a ha174
          refine C_at (n := ⟨97, [], none⟩) (fun _ _ => rfl) ?_ ha174
          refine C_region ?_
          refine V_y (Y_move rfl) rfl rfl rfl ?_
          refine V_y (Y_move rfl) rfl rfl rfl ?_
          refine V_buildSlice (l := ([s170] : List ByteArray)) (len := 1) Try.underlying36 Try.sizeOf9 Try.zeroValue9 rfl (by with_unfolding_all rfl) (by decide) (by decide) hA ⟨[.string s170], _, rfl, rfl, rfl⟩ rfl rfl ?_
          intro v179 w180 hk182 h181
          have ht183 := Kp.tr hk182 hA hB
          replace hH := Hp.kp hH hk182
          replace h17 := Sl.tr h17 ht183
          replace hK := Tr.trans hK ht183
          replace hr20 := Tr.trans hr20 ht183
          replace hB := Nat.le_trans hB ht183.ex.size
          replace hA := ht183.new
          obtain ⟨x184, hx184, h36⟩ := Option.bind_eq_some_iff.1 h36
          refine V_appendH (e := 9) (v := v31) (l := s29) (ti := Try.t9) (bytes := 16) (lim := 8796093022208) hH (i := 0) rfl h181 hx184 Try.underlying36 Try_info9 rfl rfl rfl rfl (by decide) (by decide) (by decide) hB hA rfl rfl rfl ?_
          intro v185 w186 A187 hH188 ht189
          replace h17 := Sl.tr h17 ht189
          replace h181 := Sl.tr h181 ht189
          replace hK := Tr.trans hK ht189
          replace hr20 := Tr.trans hr20 ht189
          replace hB := Nat.le_trans hB ht189.ex.size
          replace hA := ht189.new
          replace hH : Hp w.heap.size A187 w186 (obS (α := ByteArray) 9 v185 x184 :: []) := hH188
          refine V_y (Y_assign rfl) rfl rfl rfl ?_
          refine V_to (fun _ _ => rfl) ?_
          refine C_region ?_
          refine V_y (Y_addI rfl rfl) rfl rfl rfl ?_
          refine V_y (Y_move rfl) rfl rfl rfl ?_
          obtain rfl := Option.some.inj h36
          refine V_end (fun a ha190 => ?_)
          exact ⟨x184, hlt39, h37, ⟨(v185, A187), ha190.sub ⟨rfl, rfl, rfl, (congrArg (fun z => some (Value.int .i64 z)) (w64_succ hlt39 hn42)), trivial⟩, ⟨hH, hr20⟩⟩⟩
      · refine C_exit (fun a ha191 => ?_)
        exact ⟨(s29, v31, A33), ha191.sub ⟨rfl, trivial⟩, ⟨(h40 (eq_of_dec hle38 hc43)).symm, hH, hr20⟩⟩
    rintro ⟨s19, v25, A27⟩ w22 ⟨rfl, hH28, hk23⟩ a ha24
    rw [Lp.andThen_fin] at hm
    replace hK := Tr.trans hK hk23
    replace hB := Nat.le_trans hB hk23.ex.size
    replace hA := hk23.new
    replace hH : Hp w.heap.size A27 w22 (obS (α := ByteArray) 9 v25 s19 :: []) := hH28
    refine C_at (n := ⟨97, [], none⟩) (fun _ _ => rfl) ?_ ha24
    refine C_seq ?_
    refine C_region ?_
    refine V_y (Y_move rfl) rfl rfl rfl ?_
    obtain ⟨x193, hx193, hm⟩ := Option.bind_eq_some_iff.1 hm
    refine V_call Try.call51 rfl rfl rfl rfl (strings_Join_c w22 (A := fun _ => True) (fun _ _ => trivial) s19 v25 (Hp.any (α := ByteArray) (e := 9) (v := v25) (l := s19) hH (i := 0) rfl) (⟨#[32]⟩ : ByteArray) hx193) ?_
    rintro _ w194 ⟨rfl, hk195⟩
    have ht196 := Kp.tr hk195 hA hB
    replace hH := Hp.kp hH hk195
    replace hK := Tr.trans hK ht196
    replace hB := Nat.le_trans hB ht196.ex.size
    replace hA := ht196.new
    refine V_y (Y_assign rfl) rfl rfl rfl ?_
    refine V_to (fun _ _ => rfl) ?_
    refine C_seq ?_
    refine C_seq ?_
    refine C_region ?_
    refine V_y (Y_move rfl) rfl rfl rfl ?_
    refine V_y (Y_lenStr rfl Try.underlying9 rfl) rfl rfl rfl ?_
    refine V_y (Y_gtr rfl rfl) rfl rfl rfl ?_
    refine V_to (fun _ _ => rfl) ?_
    refine C_cond rfl (fun hc197 => ?_) (fun hc197 => ?_)
    · rw [if_pos hc197] at hm
      refine C_seq ?_
      refine C_region ?_
      refine V_y (Y_assign rfl) rfl rfl rfl ?_
      refine V_y (Y_assign rfl) rfl rfl rfl ?_
      refine V_to (fun _ _ => rfl) ?_
      obtain rfl := Option.some.inj hm
      refine C_ret ?_
      try simp only [↓inBlock_ret, ↓then_ret]
      exact retQ rfl (Res.two Try.results9 rfl rfl) ⟨rfl, hK.kp⟩
    · rw [if_neg (nt hc197)] at hm
      refine C_skip_to (fun _ _ => rfl) ?_
      refine C_seq ?_
      refine C_region ?_
      refine V_y (Y_move rfl) rfl rfl rfl ?_
      refine V_y (Y_assign rfl) rfl rfl rfl ?_
      refine V_y (Y_assign rfl) rfl rfl rfl ?_
      refine V_to (fun _ _ => rfl) ?_
      obtain rfl := Option.some.inj hm
      refine C_ret ?_
      try simp only [↓inBlock_ret, ↓then_ret]
      exact retQ rfl (Res.two Try.results9 rfl rfl) ⟨rfl, hK.kp⟩

set_option maxRecDepth 4000 in
set_option maxHeartbeats 4000000 in
theorem portlaw2_QueryWrites_c (w : World) {A : Nat → Prop} (hA : ∀ b, w.heap.size ≤ b → A b) (q : know_Query) (v_q : Value) (h_q : Sl A w v_q q.parts) {r : Bool} (hm : portlaw2_QueryWrites q = some r) : Ret Try.prog 4 #[.agg #[v_q]] w fun v w' => v = .bool r ∧ Kp w w' := by
  unfold portlaw2_QueryWrites at hm
  refine enter Try.func4 rfl Try.ntmps4 rfl ?_
  have hA0 := hA
  have hB := Nat.le_refl w.heap.size
  have hK : Tr w.heap.size A w A w := Tr.refl hA
  have hH : Hp w.heap.size A w [] := Hp.nil
  refine C_seq ?_
  refine C_region ?_
  refine V_box rfl rfl ?_
  intro b3 w4 h5
  have hk7 := h5.kp
  have h6 : El (α := know_Query) A w4 b3 0 q := h5.el hA ⟨_, rfl, h_q⟩
  have ht8 := Kp.tr hk7 hA hB
  replace hH := Hp.kp hH hk7
  replace h_q := Sl.tr h_q ht8
  replace hK := Tr.trans hK ht8
  replace hB := Nat.le_trans hB ht8.ex.size
  replace hA := ht8.new
  refine V_y (Y_assign rfl) rfl rfl rfl ?_
  refine V_to (fun _ _ => rfl) ?_
  refine C_seq ?_
  refine C_region ?_
  obtain ⟨v9, h11, h10⟩ := El_know_Query h6
  refine V_y (Y_loadA h11 Try.isAgg24 Try.sizeOf24 rfl) rfl rfl rfl ?_
  obtain ⟨x12, hx12, hm⟩ := Option.bind_eq_some_iff.1 hm
  refine V_call Try.call8 rfl rfl rfl rfl (know_QueryText_c w4 hA q v9 h10 hx12) ?_
  rintro _ w13 ⟨rfl, hk14⟩
  have ht15 := Kp.tr hk14 hA hB
  replace hH := Hp.kp hH hk14
  replace h6 := El.tr h6 ht15
  replace h10 := Sl.tr h10 ht15
  replace hK := Tr.trans hK ht15
  replace hB := Nat.le_trans hB ht15.ex.size
  replace hA := ht15.new
  refine V_y (Y_move rfl) rfl rfl rfl ?_
  refine V_y (Y_extract rfl rfl) rfl rfl rfl ?_
  refine V_y (Y_extract rfl rfl) rfl rfl rfl ?_
  refine V_y (Y_assign rfl) rfl rfl rfl ?_
  refine V_y (Y_assign rfl) rfl rfl rfl ?_
  refine V_to (fun _ _ => rfl) ?_
  refine C_seq ?_
  refine C_region ?_
  obtain ⟨v16, h18, h17⟩ := El_know_Query h6
  refine V_y (Y_loadA h18 Try.isAgg24 Try.sizeOf24 rfl) rfl rfl rfl ?_
  obtain ⟨x19, hx19, hm⟩ := Option.bind_eq_some_iff.1 hm
  refine V_call Try.call9 rfl rfl rfl rfl (portref2_QueryFault_c w13 hA q v16 h17 hx19) ?_
  rintro _ w20 ⟨rfl, hk21⟩
  have ht22 := Kp.tr hk21 hA hB
  replace hH := Hp.kp hH hk21
  replace h6 := El.tr h6 ht22
  replace h17 := Sl.tr h17 ht22
  replace hK := Tr.trans hK ht22
  replace hB := Nat.le_trans hB ht22.ex.size
  replace hA := ht22.new
  refine V_y (Y_move rfl) rfl rfl rfl ?_
  refine V_y (Y_extract rfl rfl) rfl rfl rfl ?_
  refine V_y (Y_extract rfl rfl) rfl rfl rfl ?_
  refine V_y (Y_assign rfl) rfl rfl rfl ?_
  refine V_y (Y_assign rfl) rfl rfl rfl ?_
  refine V_to (fun _ _ => rfl) ?_
  refine C_seq ?_
  refine C_region ?_
  refine V_y (Y_move rfl) rfl rfl rfl ?_
  refine V_y (Y_move rfl) rfl rfl rfl ?_
  refine V_y (Y_seql rfl rfl) rfl rfl rfl ?_
  refine V_y (Y_move rfl) rfl rfl rfl ?_
  refine V_cut 4 (fun _ : Unit => [(24, .bool ((strEq x12.1 x19.1) && (x12.2 == x19.2)))]) (fun _ w' => w20 = w') ?_ ?_
  · simp only [List.take, List.drop]
    rcases Bool.eq_false_or_eq_true (strEq x12.1 x19.1) with hc23 | hc23
    · refine V_ge rfl rfl rfl hc23 ?_
      refine V_y (Y_move rfl) rfl rfl rfl ?_
      refine V_ge rfl rfl rfl hc23 ?_
      refine V_y (Y_move rfl) rfl rfl rfl ?_
      refine V_ge rfl rfl rfl hc23 ?_
      refine V_y (Y_eql rfl rfl) rfl rfl rfl ?_
      refine V_y (Y_pick_te rfl hc23 rfl) rfl rfl rfl ?_
      exact V_end fun a ha => ⟨(), ha.sub ⟨(by rw [hc23]; rfl), trivial⟩, rfl⟩
    · refine V_gn rfl rfl rfl hc23 rfl rfl rfl ?_
      refine V_gn rfl rfl rfl hc23 rfl rfl rfl ?_
      refine V_gn rfl rfl rfl hc23 rfl rfl rfl ?_
      refine V_y (Y_pick_fe rfl hc23 rfl) rfl rfl rfl ?_
      exact V_end fun a ha => ⟨(), ha.sub ⟨(by rw [hc23]; rfl), trivial⟩, rfl⟩
  simp only [List.take, List.drop]
  rintro _ _ rfl
  refine V_y (Y_assign rfl) rfl rfl rfl ?_
  refine V_to (fun _ _ => rfl) ?_
  obtain rfl := Option.some.inj hm
  refine C_ret ?_
  try simp only [↓inBlock_ret, ↓then_ret]
  exact retQ rfl (Res.one Try.results4 rfl) ⟨rfl, hK.kp⟩

end Go.Proofs.Ytgeagllbckdfhaa.W
