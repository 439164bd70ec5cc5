/-
  Written by program (gen.py) from the IR of the dump: each function computes its model.
-/
import Derived.Test.YtdfohednlmnciaaGreatDoorProg
import Derived.Test.YtdfohednlmnciaaGreatDoorGe
import Derived.Test.YtdfohednlmnciaaGreatDoorKnowSuggestsM
import Derived.KernelRfl
import Derived.Test.YtdfohednlmnciaaGreatDoorHr
import Derived.Test.YtdfohednlmnciaaGreatDoorGu
import Derived.Shelf.Small.Strs
import Derived.Shelf.Strings.SlTrimAscii
import Derived.Test.YtdfohednlmnciaaGreatDoorGi
import Derived.Test.YtdfohednlmnciaaGreatDoorHc
import Derived.Test.YtdfohednlmnciaaGreatDoorHa
import Derived.Test.YtdfohednlmnciaaGreatDoorGv
import Derived.Test.YtdfohednlmnciaaGreatDoorHe
namespace Go.Proofs.YtdfohednlmnciaaGreatDoor.W
open Go Go.RowKit Go.Pu Go.Gw Go.Proofs Go.Proofs.YtdfohednlmnciaaGreatDoor.M
set_option linter.unusedVariables false
set_option linter.unusedSimpArgs false
variable {Dw : Prop}

theorem Tryz_info9 : Tryz.prog.info? 9 = some Tryz.t9 := by kernel_rfl
theorem Tryz_info32 : Tryz.prog.info? 32 = some Tryz.t32 := by kernel_rfl
theorem Tryz_info44 : Tryz.prog.info? 44 = some Tryz.t44 := by kernel_rfl
theorem Tryz_places32 : ∀ fs, Tryz.prog.underlying 32 = some (.struct fs) → ∀ w : World, (Array.mapM (fun (f : Field) => do pure (f.offset, ← Go.sizeOf f.type)) fs).run Tryz.prog w = .ok #[(0, 1), (1, 1)] w := by
  intro fs h w
  rw [Tryz.underlying32] at h
  cases h
  kernel_rfl
theorem Tryz_places40 : ∀ fs, Tryz.prog.underlying 40 = some (.struct fs) → ∀ w : World, (Array.mapM (fun (f : Field) => do pure (f.offset, ← Go.sizeOf f.type)) fs).run Tryz.prog w = .ok #[(0, 1), (1, 1), (2, 1)] w := by
  intro fs h w
  rw [Tryz.underlying40] at h
  cases h
  kernel_rfl
theorem Tryz_places44 : ∀ fs, Tryz.prog.underlying 44 = some (.struct fs) → ∀ w : World, (Array.mapM (fun (f : Field) => do pure (f.offset, ← Go.sizeOf f.type)) fs).run Tryz.prog w = .ok #[(0, 1), (1, 1)] w := by
  intro fs h w
  rw [Tryz.underlying44] at h
  cases h
  kernel_rfl
theorem Tryz_places49 : ∀ fs, Tryz.prog.underlying 49 = some (.struct fs) → ∀ w : World, (Array.mapM (fun (f : Field) => do pure (f.offset, ← Go.sizeOf f.type)) fs).run Tryz.prog w = .ok #[(0, 1), (1, 1), (2, 1)] w := by
  intro fs h w
  rw [Tryz.underlying49] at h
  cases h
  kernel_rfl
theorem Tryz_eqt32_10000 (a0 : Int) (a1 : Int) (b0 : Int) (b1 : Int) (w : World) : (Op.equalIn 10000 32 (.agg #[.int .i64 a0, .int .i64 a1]) (.agg #[.int .i64 b0, .int .i64 b1])).run Tryz.prog w = .ok (a0 == b0 && (a1 == b1)) w := by
  refine (run_equalIn_struct w 9999 32 _ _ (by kernel_rfl) (by kernel_rfl)).trans ?_
  rw [show Tryz.prog.fieldsOf 32 = _ from by unfold Program.fieldsOf; rw [Tryz.underlying32]]
  cases h0 : (a0 == b0) <;> cases h1 : (a1 == b1) <;> simp_all [Op.eqFields, part, strEq, Tryz.isAgg3, run_equalIn_int _ _ _ _ _ _ _ Tryz.underlying3]
theorem Tryz_eqg32 : Tryz.prog.eqGuardType Tryz.prog.depth 32 = false := by kernel_rfl
theorem Tryz_mixed : Tryz.prog.follows .mixedOrders = true := by kernel_rfl

instance : GoT know_Posting := GoT.of (β := Int × (List Int) × (List Int)) fun x => (x.id_, x.title, x.body)

theorem El_know_Posting_ {A : Nat → Prop} {w : World} {b off : Nat} {x : know_Posting} (h : El A w b off x) : El (α := Int × (List Int) × (List Int)) A w b off (x.id_, x.title, x.body) := h

theorem El_know_Posting_0 {A : Nat → Prop} {w : World} {b off : Nat} {x : know_Posting} (h : El A w b off x) : El A w b (off + 0) x.id_ := El.fst (El_know_Posting_ h)

theorem El_know_Posting_1 {A : Nat → Prop} {w : World} {b off : Nat} {x : know_Posting} (h : El A w b off x) : El A w b (off + 1) x.title := El.fst (El.snd (El_know_Posting_ h))

theorem El_know_Posting_2 {A : Nat → Prop} {w : World} {b off : Nat} {x : know_Posting} (h : El A w b off x) : El A w b (off + 2) x.body := El.snd (El.snd (El_know_Posting_ h))

theorem El_know_Posting {A : Nat → Prop} {w : World} {b off : Nat} {x : know_Posting} (h : El A w b off x) : ∃ v1 v3, At w b off [.int .i64 x.id_, v1, v3] ∧ Sl A w v1 x.title ∧ Sl A w v3 x.body := by
  obtain ⟨h1, h2, cs, h3, h4⟩ := h
  obtain ⟨_, _, rfl, rfl, ⟨_, _, rfl, ⟨u1, rfl, g1⟩, ⟨u2, rfl, g2⟩⟩⟩ := h3
  exact ⟨u1, u2, h4, g1, g2⟩

instance : GoT know_Term := GoT.of (β := ByteArray × (List know_Posting)) fun x => (x.word, x.list_)

theorem El_know_Term_ {A : Nat → Prop} {w : World} {b off : Nat} {x : know_Term} (h : El A w b off x) : El (α := ByteArray × (List know_Posting)) A w b off (x.word, x.list_) := h

theorem El_know_Term_0 {A : Nat → Prop} {w : World} {b off : Nat} {x : know_Term} (h : El A w b off x) : El A w b (off + 0) x.word := El.fst (El_know_Term_ h)

theorem El_know_Term_1 {A : Nat → Prop} {w : World} {b off : Nat} {x : know_Term} (h : El A w b off x) : El A w b (off + 1) x.list_ := El.snd (El_know_Term_ h)

theorem El_know_Term {A : Nat → Prop} {w : World} {b off : Nat} {x : know_Term} (h : El A w b off x) : ∃ v1, At w b off [.string x.word, v1] ∧ Sl A w v1 x.list_ := by
  obtain ⟨h1, h2, cs, h3, h4⟩ := h
  obtain ⟨_, _, rfl, rfl, ⟨u1, rfl, g1⟩⟩ := h3
  exact ⟨u1, h4, g1⟩

theorem Rep_know_Term {A : Nat → Prop} {w : World} {cs : List Value} {x : know_Term} (h : GoT.rep A w cs x) : ∃ v1, cs = [.string x.word, v1] ∧ Sl A w v1 x.list_ := by
  obtain ⟨_, _, rfl, rfl, ⟨u1, rfl, g1⟩⟩ := h
  exact ⟨u1, rfl, g1⟩

instance : GoT know_Index := GoT.of (β := (List Int) × (List Int) × (List know_Term)) fun x => (x.ids, x.sizes, x.terms)

theorem El_know_Index_ {A : Nat → Prop} {w : World} {b off : Nat} {x : know_Index} (h : El A w b off x) : El (α := (List Int) × (List Int) × (List know_Term)) A w b off (x.ids, x.sizes, x.terms) := h

theorem El_know_Index_0 {A : Nat → Prop} {w : World} {b off : Nat} {x : know_Index} (h : El A w b off x) : El A w b (off + 0) x.ids := El.fst (El_know_Index_ h)

theorem El_know_Index_1 {A : Nat → Prop} {w : World} {b off : Nat} {x : know_Index} (h : El A w b off x) : El A w b (off + 1) x.sizes := El.fst (El.snd (El_know_Index_ h))

theorem El_know_Index_2 {A : Nat → Prop} {w : World} {b off : Nat} {x : know_Index} (h : El A w b off x) : El A w b (off + 2) x.terms := El.snd (El.snd (El_know_Index_ h))

theorem El_know_Index {A : Nat → Prop} {w : World} {b off : Nat} {x : know_Index} (h : El A w b off x) : ∃ v1 v3 v5, At w b off [v1, v3, v5] ∧ Sl A w v1 x.ids ∧ Sl A w v3 x.sizes ∧ Sl A w v5 x.terms := by
  obtain ⟨h1, h2, cs, h3, h4⟩ := h
  obtain ⟨_, _, rfl, ⟨u1, rfl, g1⟩, ⟨_, _, rfl, ⟨u2, rfl, g2⟩, ⟨u3, rfl, g3⟩⟩⟩ := h3
  exact ⟨u1, u2, u3, h4, g1, g2, g3⟩

instance : GoT know_Hit := GoT.of (β := Int × Int) fun x => (x.id_, x.score)

instance : Flat know_Hit := ⟨fun {A w A1 w1 cs x} h => Flat.flat (α := Int × Int) (x := (x.id_, x.score)) (A := A) (w := w) h⟩

theorem El_know_Hit_ {A : Nat → Prop} {w : World} {b off : Nat} {x : know_Hit} (h : El A w b off x) : El (α := Int × Int) A w b off (x.id_, x.score) := h

theorem El_know_Hit_0 {A : Nat → Prop} {w : World} {b off : Nat} {x : know_Hit} (h : El A w b off x) : El A w b (off + 0) x.id_ := El.fst (El_know_Hit_ h)

theorem El_know_Hit_1 {A : Nat → Prop} {w : World} {b off : Nat} {x : know_Hit} (h : El A w b off x) : El A w b (off + 1) x.score := El.snd (El_know_Hit_ h)

theorem El_know_Hit {A : Nat → Prop} {w : World} {b off : Nat} {x : know_Hit} (h : El A w b off x) : At w b off [.int .i64 x.id_, .int .i64 x.score] ∧ True := by
  obtain ⟨h1, h2, cs, h3, h4⟩ := h
  obtain ⟨_, _, rfl, rfl, rfl⟩ := h3
  exact ⟨h4, trivial⟩

theorem Rep_know_Hit {A : Nat → Prop} {w : World} {cs : List Value} {x : know_Hit} (h : GoT.rep A w cs x) : cs = [.int .i64 x.id_, .int .i64 x.score] ∧ True := by
  obtain ⟨_, _, rfl, rfl, rfl⟩ := h
  exact ⟨rfl, trivial⟩

instance : GoT know_Part := GoT.of (β := Int × Bool × (List ByteArray)) fun x => (x.kind, x.not_, x.words)

theorem El_know_Part_ {A : Nat → Prop} {w : World} {b off : Nat} {x : know_Part} (h : El A w b off x) : El (α := Int × Bool × (List ByteArray)) A w b off (x.kind, x.not_, x.words) := h

theorem El_know_Part_0 {A : Nat → Prop} {w : World} {b off : Nat} {x : know_Part} (h : El A w b off x) : El A w b (off + 0) x.kind := El.fst (El_know_Part_ h)

theorem El_know_Part_1 {A : Nat → Prop} {w : World} {b off : Nat} {x : know_Part} (h : El A w b off x) : El A w b (off + 1) x.not_ := El.fst (El.snd (El_know_Part_ h))

theorem El_know_Part_2 {A : Nat → Prop} {w : World} {b off : Nat} {x : know_Part} (h : El A w b off x) : El A w b (off + 2) x.words := El.snd (El.snd (El_know_Part_ h))

theorem El_know_Part {A : Nat → Prop} {w : World} {b off : Nat} {x : know_Part} (h : El A w b off x) : ∃ v1, At w b off [.int .i64 x.kind, .bool x.not_, v1] ∧ Sl A w v1 x.words := by
  obtain ⟨h1, h2, cs, h3, h4⟩ := h
  obtain ⟨_, _, rfl, rfl, ⟨_, _, rfl, rfl, ⟨u1, rfl, g1⟩⟩⟩ := h3
  exact ⟨u1, h4, g1⟩

set_option maxRecDepth 4000 in
set_option maxHeartbeats 4000000 in
theorem know_within_c (w : World) (n : Int) (low : Int) (high : Int) : Ret Tryz.prog 8 #[.int .i64 n, .int .i64 low, .int .i64 high] w fun v w' => v = .bool (know_within n low high) ∧ w = w' := by
  generalize hm : know_within n low high = r
  unfold know_within at hm
  refine enter Tryz.func8 rfl Tryz.ntmps8 rfl ?_
  refine C_seq ?_
  refine C_region ?_
  refine V_y (Y_assign rfl) rfl rfl rfl ?_
  refine V_to (fun _ _ => rfl) ?_
  refine C_seq ?_
  refine C_region ?_
  refine V_y (Y_move rfl) rfl rfl rfl ?_
  refine V_y (Y_move rfl) rfl rfl rfl ?_
  refine V_y (Y_geq rfl rfl) rfl rfl rfl ?_
  refine V_y (Y_move rfl) rfl rfl rfl ?_
  refine V_cut 4 (fun _ : Unit => [(14, .bool ((decide (low ≤ n)) && (decide (n ≤ high))))]) (fun _ w' => w = w') ?_ ?_
  · simp only [List.take, List.drop]
    rcases Bool.eq_false_or_eq_true (decide (low ≤ n)) with hc1 | hc1
    · refine V_ge rfl rfl rfl hc1 ?_
      refine V_y (Y_move rfl) rfl rfl rfl ?_
      refine V_ge rfl rfl rfl hc1 ?_
      refine V_y (Y_move rfl) rfl rfl rfl ?_
      refine V_ge rfl rfl rfl hc1 ?_
      refine V_y (Y_leq rfl rfl) rfl rfl rfl ?_
      refine V_y (Y_pick_te rfl hc1 rfl) rfl rfl rfl ?_
      exact V_end fun a ha => ⟨(), ha.sub ⟨(by rw [hc1]; rfl), trivial⟩, rfl⟩
    · refine V_gn rfl rfl rfl hc1 rfl rfl rfl ?_
      refine V_gn rfl rfl rfl hc1 rfl rfl rfl ?_
      refine V_gn rfl rfl rfl hc1 rfl rfl rfl ?_
      refine V_y (Y_pick_fe rfl hc1 rfl) rfl rfl rfl ?_
      exact V_end fun a ha => ⟨(), ha.sub ⟨(by rw [hc1]; rfl), trivial⟩, rfl⟩
  simp only [List.take, List.drop]
  rintro _ _ rfl
  refine V_y (Y_assign rfl) rfl rfl rfl ?_
  refine V_to (fun _ _ => rfl) ?_
  obtain rfl := hm
  refine C_ret ?_
  try simp only [↓inBlock_ret, ↓then_ret]
  exact retQ rfl (Res.one Tryz.results8 rfl) ⟨rfl, rfl⟩

set_option maxRecDepth 4000 in
set_option maxHeartbeats 4000000 in
theorem know_digit_c (w : World) (c : Int) : Ret Tryz.prog 59 #[.int .u8 c] w fun v w' => v = .bool (know_digit c) ∧ w = w' := by
  generalize hm : know_digit c = r
  unfold know_digit at hm
  refine enter Tryz.func59 rfl Tryz.ntmps59 rfl ?_
  refine C_seq ?_
  refine C_region ?_
  refine V_y (Y_assign rfl) rfl rfl rfl ?_
  refine V_to (fun _ _ => rfl) ?_
  refine C_seq ?_
  refine C_region ?_
  refine V_y (Y_move rfl) rfl rfl rfl ?_
  refine V_y (Y_geq rfl rfl) rfl rfl rfl ?_
  refine V_y (Y_move rfl) rfl rfl rfl ?_
  refine V_cut 3 (fun _ : Unit => [(8, .bool ((decide ((48 : Int) ≤ c)) && (decide (c ≤ 57))))]) (fun _ w' => w = w') ?_ ?_
  · simp only [List.take, List.drop]
    rcases Bool.eq_false_or_eq_true (decide ((48 : Int) ≤ c)) with hc1 | hc1
    · refine V_ge rfl rfl rfl hc1 ?_
      refine V_y (Y_move rfl) rfl rfl rfl ?_
      refine V_ge rfl rfl rfl hc1 ?_
      refine V_y (Y_leq rfl rfl) rfl rfl rfl ?_
      refine V_y (Y_pick_te rfl hc1 rfl) rfl rfl rfl ?_
      exact V_end fun a ha => ⟨(), ha.sub ⟨(by rw [hc1]; rfl), trivial⟩, rfl⟩
    · refine V_gn rfl rfl rfl hc1 rfl rfl rfl ?_
      refine V_gn rfl rfl rfl hc1 rfl rfl rfl ?_
      refine V_y (Y_pick_fe rfl hc1 rfl) rfl rfl rfl ?_
      exact V_end fun a ha => ⟨(), ha.sub ⟨(by rw [hc1]; rfl), trivial⟩, rfl⟩
  simp only [List.take, List.drop]
  rintro _ _ rfl
  refine V_y (Y_assign rfl) rfl rfl rfl ?_
  refine V_to (fun _ _ => rfl) ?_
  obtain rfl := hm
  refine C_ret ?_
  try simp only [↓inBlock_ret, ↓then_ret]
  exact retQ rfl (Res.one Tryz.results59 rfl) ⟨rfl, rfl⟩

set_option maxRecDepth 4000 in
set_option maxHeartbeats 4000000 in
theorem know_letter_c (w : World) (c : Int) : Ret Tryz.prog 58 #[.int .u8 c] w fun v w' => v = .bool (know_letter c) ∧ w = w' := by
  generalize hm : know_letter c = r
  unfold know_letter at hm
  refine enter Tryz.func58 rfl Tryz.ntmps58 rfl ?_
  refine C_seq ?_
  refine C_region ?_
  refine V_y (Y_assign rfl) rfl rfl rfl ?_
  refine V_to (fun _ _ => rfl) ?_
  refine C_seq ?_
  refine C_region ?_
  refine V_y (Y_move rfl) rfl rfl rfl ?_
  refine V_y (Y_geq rfl rfl) rfl rfl rfl ?_
  refine V_y (Y_move rfl) rfl rfl rfl ?_
  refine V_cut 3 (fun _ : Unit => [(0, .int .u8 c), (8, .bool ((decide ((97 : Int) ≤ c)) && (decide (c ≤ 122))))]) (fun _ w' => w = w') ?_ ?_
  · simp only [List.take, List.drop]
    rcases Bool.eq_false_or_eq_true (decide ((97 : Int) ≤ c)) with hc1 | hc1
    · refine V_ge rfl rfl rfl hc1 ?_
      refine V_y (Y_move rfl) rfl rfl rfl ?_
      refine V_ge rfl rfl rfl hc1 ?_
      refine V_y (Y_leq rfl rfl) rfl rfl rfl ?_
      refine V_y (Y_pick_te rfl hc1 rfl) rfl rfl rfl ?_
      exact V_end fun a ha => ⟨(), ha.sub ⟨rfl, (by rw [hc1]; rfl), trivial⟩, rfl⟩
    · refine V_gn rfl rfl rfl hc1 rfl rfl rfl ?_
      refine V_gn rfl rfl rfl hc1 rfl rfl rfl ?_
      refine V_y (Y_pick_fe rfl hc1 rfl) rfl rfl rfl ?_
      exact V_end fun a ha => ⟨(), ha.sub ⟨rfl, (by rw [hc1]; rfl), trivial⟩, rfl⟩
  simp only [List.take, List.drop]
  rintro _ _ rfl
  refine V_y (Y_move rfl) rfl rfl rfl ?_
  refine V_cut 7 (fun _ : Unit => [(16, .bool (((decide ((97 : Int) ≤ c)) && (decide (c ≤ 122))) || ((decide ((65 : Int) ≤ c)) && (decide (c ≤ 90)))))]) (fun _ w' => w = w') ?_ ?_
  · simp only [List.take, List.drop]
    rcases Bool.eq_false_or_eq_true (((decide ((97 : Int) ≤ c)) && (decide (c ≤ 122)))) with hc3 | hc3
    · refine V_gn rfl rfl rfl hc3 rfl rfl rfl ?_
      refine V_gn rfl rfl rfl hc3 rfl rfl rfl ?_
      refine V_gn rfl rfl rfl hc3 rfl rfl rfl ?_
      refine V_gu rfl rfl rfl rfl rfl ?_
      refine V_gu rfl rfl rfl rfl rfl ?_
      refine V_gn rfl rfl rfl hc3 rfl rfl rfl ?_
      refine V_y (Y_pick_te rfl hc3 rfl) rfl rfl rfl ?_
      exact V_end fun a ha => ⟨(), ha.sub ⟨(by rw [hc3]; rfl), trivial⟩, rfl⟩
    · refine V_ge rfl rfl rfl hc3 ?_
      refine V_y (Y_move rfl) rfl rfl rfl ?_
      refine V_ge rfl rfl rfl hc3 ?_
      refine V_y (Y_geq rfl rfl) rfl rfl rfl ?_
      refine V_ge rfl rfl rfl hc3 ?_
      refine V_y (Y_move rfl) rfl rfl rfl ?_
      refine V_cut 3 (fun _ : Unit => [(9, .bool ((decide ((97 : Int) ≤ c)) && (decide (c ≤ 122)))), (15, .bool ((decide ((65 : Int) ≤ c)) && (decide (c ≤ 90))))]) (fun _ w' => w = w') ?_ ?_
      · simp only [List.take, List.drop]
        rcases Bool.eq_false_or_eq_true (decide ((65 : Int) ≤ c)) with hc5 | hc5
        · refine V_ge rfl rfl rfl hc5 ?_
          refine V_y (Y_move rfl) rfl rfl rfl ?_
          refine V_ge rfl rfl rfl hc5 ?_
          refine V_y (Y_leq rfl rfl) rfl rfl rfl ?_
          refine V_ge rfl rfl rfl hc3 ?_
          refine V_y (Y_pick_te rfl hc5 rfl) rfl rfl rfl ?_
          exact V_end fun a ha => ⟨(), ha.sub ⟨rfl, (by rw [hc5]; rfl), trivial⟩, rfl⟩
        · refine V_gn rfl rfl rfl hc5 rfl rfl rfl ?_
          refine V_gn rfl rfl rfl hc5 rfl rfl rfl ?_
          refine V_ge rfl rfl rfl hc3 ?_
          refine V_y (Y_pick_fe rfl hc5 rfl) rfl rfl rfl ?_
          exact V_end fun a ha => ⟨(), ha.sub ⟨rfl, (by rw [hc5]; rfl), trivial⟩, rfl⟩
      simp only [List.take, List.drop]
      rintro _ _ rfl
      refine V_y (Y_pick_fe rfl hc3 rfl) rfl rfl rfl ?_
      exact V_end fun a ha => ⟨(), ha.sub ⟨(by rw [hc3]; rfl), trivial⟩, rfl⟩
  simp only [List.take, List.drop]
  rintro _ _ rfl
  refine V_y (Y_assign rfl) rfl rfl rfl ?_
  refine V_to (fun _ _ => rfl) ?_
  obtain rfl := hm
  refine C_ret ?_
  try simp only [↓inBlock_ret, ↓then_ret]
  exact retQ rfl (Res.one Tryz.results58 rfl) ⟨rfl, rfl⟩

set_option maxRecDepth 4000 in
set_option maxHeartbeats 4000000 in
theorem know_inWord_c (w : World) (c : Int) : Ret Tryz.prog 33 #[.int .u8 c] w fun v w' => v = .bool (know_inWord c) ∧ w = w' := by
  generalize hm : know_inWord c = r
  unfold know_inWord at hm
  refine enter Tryz.func33 rfl Tryz.ntmps33 rfl ?_
  refine C_seq ?_
  refine C_region ?_
  refine V_y (Y_assign rfl) rfl rfl rfl ?_
  refine V_to (fun _ _ => rfl) ?_
  refine C_seq ?_
  refine C_region ?_
  refine V_y (Y_move rfl) rfl rfl rfl ?_
  refine V_call Tryz.call58 rfl rfl rfl rfl (know_letter_c w c) ?_
  rintro _ _ ⟨rfl, rfl⟩
  refine V_y (Y_move rfl) rfl rfl rfl ?_
  refine V_cut 3 (fun _ : Unit => [(0, .int .u8 c), (8, .bool ((know_letter c) || (know_digit c)))]) (fun _ w' => w = w') ?_ ?_
  · simp only [List.take, List.drop]
    rcases Bool.eq_false_or_eq_true ((know_letter c)) with hc1 | hc1
    · refine V_gn rfl rfl rfl hc1 rfl rfl rfl ?_
      refine V_gn rfl rfl rfl hc1 rfl rfl rfl ?_
      refine V_y (Y_pick_te rfl hc1 rfl) rfl rfl rfl ?_
      exact V_end fun a ha => ⟨(), ha.sub ⟨rfl, (by rw [hc1]; rfl), trivial⟩, rfl⟩
    · refine V_ge rfl rfl rfl hc1 ?_
      refine V_y (Y_move rfl) rfl rfl rfl ?_
      refine V_ge rfl rfl rfl hc1 ?_
      refine V_call Tryz.call59 rfl rfl rfl rfl (know_digit_c w c) ?_
      rintro _ _ ⟨rfl, rfl⟩
      refine V_y (Y_pick_fe rfl hc1 rfl) rfl rfl rfl ?_
      exact V_end fun a ha => ⟨(), ha.sub ⟨rfl, (by rw [hc1]; rfl), trivial⟩, rfl⟩
  simp only [List.take, List.drop]
  rintro _ _ rfl
  refine V_y (Y_move rfl) rfl rfl rfl ?_
  refine V_cut 3 (fun _ : Unit => [(12, .bool (((know_letter c) || (know_digit c)) || (decide ((128 : Int) ≤ c))))]) (fun _ w' => w = w') ?_ ?_
  · simp only [List.take, List.drop]
    rcases Bool.eq_false_or_eq_true (((know_letter c) || (know_digit c))) with hc3 | hc3
    · refine V_gn rfl rfl rfl hc3 rfl rfl rfl ?_
      refine V_gn rfl rfl rfl hc3 rfl rfl rfl ?_
      refine V_y (Y_pick_te rfl hc3 rfl) rfl rfl rfl ?_
      exact V_end fun a ha => ⟨(), ha.sub ⟨(by rw [hc3]; rfl), trivial⟩, rfl⟩
    · refine V_ge rfl rfl rfl hc3 ?_
      refine V_y (Y_move rfl) rfl rfl rfl ?_
      refine V_ge rfl rfl rfl hc3 ?_
      refine V_y (Y_geq rfl rfl) rfl rfl rfl ?_
      refine V_y (Y_pick_fe rfl hc3 rfl) rfl rfl rfl ?_
      exact V_end fun a ha => ⟨(), ha.sub ⟨(by rw [hc3]; rfl), trivial⟩, rfl⟩
  simp only [List.take, List.drop]
  rintro _ _ rfl
  refine V_y (Y_assign rfl) rfl rfl rfl ?_
  refine V_to (fun _ _ => rfl) ?_
  obtain rfl := hm
  refine C_ret ?_
  try simp only [↓inBlock_ret, ↓then_ret]
  exact retQ rfl (Res.one Tryz.results33 rfl) ⟨rfl, rfl⟩

set_option maxRecDepth 4000 in
set_option maxHeartbeats 4000000 in
theorem know_lower_c (w : World) {A : Nat → Prop} (hA : ∀ b, w.heap.size ≤ b → A b) (s : ByteArray) {r : ByteArray} (hm : know_lower s = some r) : Ret Tryz.prog 34 #[.string s] w fun v w' => v = .string r ∧ Kp Dw w w' := by
  unfold know_lower at hm
  refine enter Tryz.func34 rfl Tryz.ntmps34 rfl ?_
  have hA0 := hA
  have hB := Nat.le_refl w.heap.size
  have hK : Tr Dw w.heap.size A w A w := Tr.refl (Dw := Dw) hA
  have hH : Hp w.heap.size A w [] := Hp.nil
  refine C_seq ?_
  refine C_region ?_
  refine V_y (Y_assign rfl) rfl rfl rfl ?_
  refine V_to (fun _ _ => rfl) ?_
  refine C_seq ?_
  refine C_region ?_
  refine V_y (Y_move rfl) rfl rfl rfl ?_
  obtain ⟨x1, hx1, hm⟩ := Option.bind_eq_some_iff.1 hm
  refine V_convU (Dw := Dw) (e := 5) hH hx1 Tryz.underlying9 Tryz.underlying85 Tryz.underlying5 hB hA rfl rfl ?_
  intro v2 w3 A4 hH5 ht6
  replace hK := Tr.trans (Dw := Dw) hK ht6
  replace hB := Nat.le_trans hB ht6.ex.size
  replace hA := ht6.new
  replace hH : Hp w.heap.size A4 w3 (obU 5 v2 x1 :: []) := hH5
  refine V_y (Y_assign rfl) rfl rfl rfl ?_
  refine V_to (fun _ _ => rfl) ?_
  refine C_seq ?_
  refine C_seq ?_
  refine C_region ?_
  refine V_y (Y_move rfl) rfl rfl rfl ?_
  refine V_y (Y_lenSl (Hp.anyU (e := 5) (v := v2) (l := x1) hH (i := 0) rfl) rfl Tryz.underlying85 rfl) rfl rfl rfl ?_
  refine V_y (Y_move rfl) rfl rfl rfl ?_
  refine V_to (fun _ _ => rfl) ?_
  have hn31 := Hp.leU (e := 5) (v := v2) (l := x1) hH (i := 0) rfl
  obtain ⟨o7, ho7, hm⟩ := Option.bind_eq_some_iff.1 hm
  refine C_cutG (ι := ((List UInt8) × Value × (Nat → Prop))) (fun ⟨s8, v14, A16⟩ => [(3, v14)]) (fun ⟨s8, v14, A16⟩ => fun w' => o7 = .fin s8 ∧ Hp w.heap.size A16 w' (obU 5 v14 s8 :: []) ∧ Tr Dw w.heap.size A4 w3 A16 w') ?_ ?_
  · refine C_block ?_
    refine C_range ho7 (fun k10 s18 a w' => ∃ i : (Value × (Nat → Prop)), Has ⟨30, [], none⟩ a ([(3, i.1), (8, i.1), (9, .int .i64 (x1.length : Int)), (10, .int .i64 (k10 : Int))]) ∧ Hp w.heap.size i.2 w' (obU 5 i.1 s18 :: []) ∧ Tr Dw w.heap.size A4 w3 i.2 w') (fun a ha => ⟨(v2, A4), ha.sub ⟨rfl, rfl, rfl, rfl, trivial⟩, ⟨hH, Tr.refl (Dw := Dw) hA⟩⟩) ?_
    rintro K k10 s18 a w19 ⟨⟨v20, A22⟩, ha74, hH23, hr9⟩ hle27 K30 h29
    refine C_of ?_ ha74
    replace hK := Tr.trans (Dw := Dw) hK hr9
    replace hB := Nat.le_trans hB hr9.ex.size
    replace hA := hr9.new
    replace hH : Hp w.heap.size A22 w19 (obU 5 v20 s18 :: []) := hH23
    refine C_seq (C_region (V_y (Y_lss rfl rfl) rfl rfl rfl (V_to (fun _ _ => rfl) ?_)))
    refine C_seq ?_
    refine C_cond rfl (fun hc32 => ?_) (fun hc32 => ?_)
    · have hlt28 := lt_of_dec hc32
      obtain ⟨x24, h25, h26⟩ := K30 hlt28
      refine C_skip_to (fun _ _ => rfl) ?_
      refine C_seq ?_
      obtain ⟨s34, ho33, h25⟩ := Option.bind_eq_some_iff.1 h25
      refine C_cutG (ι := (Value × (Nat → Prop))) (fun ⟨v36, A41⟩ => [(3, v36), (8, v36), (9, .int .i64 (x1.length : Int)), (10, .int .i64 (k10 : Int))]) (fun ⟨v36, A41⟩ => fun w' => Hp w.heap.size A41 w' (obU 5 v36 s34 :: []) ∧ Tr Dw w.heap.size A22 w19 A41 w') ?_ ?_
      · have hr35 : Tr Dw w.heap.size A22 w19 A22 w19 := Tr.refl (Dw := Dw) hA
        refine C_block ?_
        refine C_seq ?_
        refine C_region ?_
        refine V_y (Y_move rfl) rfl rfl rfl ?_
        obtain ⟨x43, hx43, ho33⟩ := Option.bind_eq_some_iff.1 ho33
        refine V_indexAddrU (e := 5) (v := v20) (l := s18) hH (i := 0) rfl hx43 Tryz.underlying85 Tryz.sizeOf5 rfl rfl rfl ?_
        intro b44 o45 h46 hl47
        refine V_y (Y_load (El.u8 h46) Tryz.isAgg5 rfl) rfl rfl rfl ?_
        refine V_y (Y_assign rfl) rfl rfl rfl ?_
        refine V_y (Y_assign rfl) rfl rfl rfl ?_
        refine V_to (fun _ _ => rfl) ?_
        refine C_seq ?_
        refine C_region ?_
        refine V_y (Y_move rfl) rfl rfl rfl ?_
        refine V_y (Y_geq rfl rfl) rfl rfl rfl ?_
        refine V_y (Y_move rfl) rfl rfl rfl ?_
        refine V_cut 3 (fun _ : Unit => [(3, v20), (4, .int .i64 (k10 : Int)), (5, .int .u8 (x43.toNat : Int)), (8, v20), (9, .int .i64 (x1.length : Int)), (10, .int .i64 (k10 : Int)), (20, .bool ((decide ((65 : Int) ≤ (x43.toNat : Int))) && (decide ((x43.toNat : Int) ≤ 90))))]) (fun _ w' => w19 = w') ?_ ?_
        · simp only [List.take, List.drop]
          rcases Bool.eq_false_or_eq_true (decide ((65 : Int) ≤ (x43.toNat : Int))) with hc48 | hc48
          · refine V_ge rfl rfl rfl hc48 ?_
            refine V_y (Y_move rfl) rfl rfl rfl ?_
            refine V_ge rfl rfl rfl hc48 ?_
            refine V_y (Y_leq rfl rfl) rfl rfl rfl ?_
            refine V_y (Y_pick_te rfl hc48 rfl) rfl rfl rfl ?_
            exact V_end fun a ha => ⟨(), ha.sub ⟨rfl, rfl, rfl, rfl, rfl, rfl, (by rw [hc48]; rfl), trivial⟩, rfl⟩
          · refine V_gn rfl rfl rfl hc48 rfl rfl rfl ?_
            refine V_gn rfl rfl rfl hc48 rfl rfl rfl ?_
            refine V_y (Y_pick_fe rfl hc48 rfl) rfl rfl rfl ?_
            exact V_end fun a ha => ⟨(), ha.sub ⟨rfl, rfl, rfl, rfl, rfl, rfl, (by rw [hc48]; rfl), trivial⟩, rfl⟩
        simp only [List.take, List.drop]
        rintro _ _ rfl
        refine V_to (fun _ _ => rfl) ?_
        obtain ⟨s51, ho50, ho33⟩ := Option.bind_eq_some_iff.1 ho33
        refine C_cutG (ι := (Value × (Nat → Prop))) (fun ⟨v53, A58⟩ => [(3, v53), (8, v53), (9, .int .i64 (x1.length : Int)), (10, .int .i64 (k10 : Int))]) (fun ⟨v53, A58⟩ => fun w' => Hp w.heap.size A58 w' (obU 5 v53 s51 :: []) ∧ Tr Dw w.heap.size A22 w19 A58 w') ?_ ?_
        · have hr52 : Tr Dw w.heap.size A22 w19 A22 w19 := Tr.refl (Dw := Dw) hA
          refine C_cond rfl (fun hc60 => ?_) (fun hc60 => ?_)
          · rw [if_pos hc60] at ho50
            refine C_region ?_
            refine V_y (Y_move rfl) rfl rfl rfl ?_
            refine V_y (Y_move rfl) rfl rfl rfl ?_
            refine V_y (Y_move rfl) rfl rfl rfl ?_
            refine V_y (Y_addB rfl rfl) rfl rfl rfl ?_
            refine V_y (Y_subB rfl rfl) rfl rfl rfl ?_
            refine V_indexAddrU (e := 5) (v := v20) (l := s18) hH (i := 0) rfl hx43 Tryz.underlying85 Tryz.sizeOf5 rfl rfl rfl ?_
            intro b61 o62 h63 hl64
            obtain ⟨x65, hx65, ho50⟩ := Option.bind_eq_some_iff.1 ho50
            refine V_storeU (Dw := Dw) (e := 5) (v := v20) (l := s18) hH (i := 0) rfl hl64 hx65 rfl Tryz.sizeOf5 rfl hB hA rfl rfl ?_
            intro w66 hH67 ht68
            replace hK := Tr.trans (Dw := Dw) hK ht68
            replace hr9 := Tr.trans (Dw := Dw) hr9 ht68
            replace hr35 := Tr.trans (Dw := Dw) hr35 ht68
            replace hr52 := Tr.trans (Dw := Dw) hr52 ht68
            replace hB := Nat.le_trans hB ht68.ex.size
            replace hA := ht68.new
            replace hH : Hp w.heap.size A22 w66 (obU 5 v20 x65 :: []) := hH67
            obtain rfl := Option.some.inj ho50
            refine V_end (fun a ha69 => ?_)
            exact ⟨(v20, A22), ha69.sub ⟨rfl, rfl, rfl, rfl, trivial⟩, ⟨hH, hr52⟩⟩
          · rw [if_neg (nt hc60)] at ho50
            obtain rfl := Option.some.inj ho50
            refine C_skip (fun a ha70 => ?_)
            exact ⟨(v20, A22), ha70.sub ⟨rfl, rfl, rfl, rfl, trivial⟩, ⟨hH, hr52⟩⟩
        rintro ⟨v53, A58⟩ w55 ⟨hH59, hk56⟩ a ha57
        replace hK := Tr.trans (Dw := Dw) hK hk56
        replace hr9 := Tr.trans (Dw := Dw) hr9 hk56
        replace hr35 := Tr.trans (Dw := Dw) hr35 hk56
        replace hB := Nat.le_trans hB hk56.ex.size
        replace hA := hk56.new
        replace hH : Hp w.heap.size A58 w55 (obU 5 v53 s51 :: []) := hH59
        obtain rfl := Option.some.inj ho33
        exact ⟨(v53, A58), ha57.sub ⟨rfl, rfl, rfl, rfl, trivial⟩, ⟨hH, hr35⟩⟩
      rintro ⟨v36, A41⟩ w38 ⟨hH42, hk39⟩ a ha40
      replace hK := Tr.trans (Dw := Dw) hK hk39
      replace hr9 := Tr.trans (Dw := Dw) hr9 hk39
      replace hB := Nat.le_trans hB hk39.ex.size
      replace hA := hk39.new
      replace hH : Hp w.heap.size A41 w38 (obU 5 v36 s34 :: []) := hH42
      refine C_at (n := ⟨30, [], none⟩) (fun _ _ => rfl) ?_ ha40
      refine C_region ?_
      refine V_y (Y_addI rfl rfl) rfl rfl rfl ?_
      refine V_y (Y_move rfl) rfl rfl rfl ?_
      obtain rfl := Option.some.inj h25
      refine V_end (fun a ha72 => ?_)
      exact ⟨s34, hlt28, h26, ⟨(v36, A41), ha72.sub ⟨rfl, rfl, rfl, (congrArg (fun z => some (Value.int .i64 z)) (w64_succ hlt28 hn31)), trivial⟩, ⟨hH, hr9⟩⟩⟩
    · refine C_exit (fun a ha73 => ?_)
      exact ⟨(s18, v20, A22), ha73.sub ⟨rfl, trivial⟩, ⟨(h29 (eq_of_dec hle27 hc32)).symm, hH, hr9⟩⟩
  rintro ⟨s8, v14, A16⟩ w11 ⟨rfl, hH17, hk12⟩ a ha13
  rw [Lp.andThen_fin] at hm
  replace hK := Tr.trans (Dw := Dw) hK hk12
  replace hB := Nat.le_trans hB hk12.ex.size
  replace hA := hk12.new
  replace hH : Hp w.heap.size A16 w11 (obU 5 v14 s8 :: []) := hH17
  refine C_at (n := ⟨30, [], none⟩) (fun _ _ => rfl) ?_ ha13
  refine C_seq ?_
  refine C_region ?_
  refine V_y (Y_move rfl) rfl rfl rfl ?_
  obtain ⟨A75, ht76, h77, hH78⟩ := Hp.freezeU (Dw := Dw) (v := v14) (l := s8) hH (i := 0) rfl hA
  replace hK := Tr.trans (Dw := Dw) hK ht76
  replace hB := Nat.le_trans hB ht76.ex.size
  replace hA := ht76.new
  replace hH : Hp w.heap.size A75 w11 ([]) := hH78
  refine V_y (Y_convBS (l := s8) h77 Tryz.underlying85 Tryz.underlying5 Tryz.underlying9 rfl) rfl rfl rfl ?_
  refine V_y (Y_assign rfl) rfl rfl rfl ?_
  refine V_to (fun _ _ => rfl) ?_
  obtain rfl := Option.some.inj hm
  refine C_ret ?_
  try simp only [↓inBlock_ret, ↓then_ret]
  exact retQ rfl (Res.one Tryz.results34 rfl) ⟨rfl, hK.kp⟩

set_option maxRecDepth 4000 in
set_option maxHeartbeats 4000000 in
theorem know_Words_c (w : World) {A : Nat → Prop} (hA : ∀ b, w.heap.size ≤ b → A b) (s : ByteArray) {r : (List ByteArray)} (hm : know_Words s = some r) : Ret Tryz.prog 10 #[.string s] w fun v w' => ∃ s0, v = s0 ∧ Ownd 9 w w' s0 r ∧ Kp Dw w w' := by
  unfold know_Words at hm
  refine enter Tryz.func10 rfl Tryz.ntmps10 rfl ?_
  have hA0 := hA
  have hB := Nat.le_refl w.heap.size
  have hK : Tr Dw w.heap.size A w A w := Tr.refl (Dw := Dw) hA
  have hH : Hp w.heap.size A w [] := Hp.nil
  refine C_seq ?_
  refine C_region ?_
  refine V_y (Y_assign rfl) rfl rfl rfl ?_
  refine V_to (fun _ _ => rfl) ?_
  refine C_seq ?_
  refine C_region ?_
  refine V_y (Y_assign rfl) rfl rfl rfl ?_
  refine V_to (fun _ _ => rfl) ?_
  refine C_seq ?_
  refine C_seq ?_
  refine C_region ?_
  refine V_y (Y_assign rfl) rfl rfl rfl ?_
  refine V_to (fun _ _ => rfl) ?_
  replace hH : Hp w.heap.size A w (obS (α := ByteArray) 9 (.slice none 0 0) ([] : (List ByteArray)) :: []) := Hp.addNil (α := ByteArray) (e := 9) hH
  obtain ⟨o1, ho1, hm⟩ := Option.bind_eq_some_iff.1 hm
  refine C_cutG (ι := (((List ByteArray) × Int) × Value × (Nat → Prop))) (fun ⟨s2, v8, A10⟩ => [(3, v8)]) (fun ⟨s2, v8, A10⟩ => fun w' => o1 = .fin s2 ∧ Hp w.heap.size A10 w' (obS (α := ByteArray) 9 v8 s2.1 :: []) ∧ Tr Dw w.heap.size A w A10 w') ?_ ?_
  · refine C_block ?_
    refine C_while ho1 (fun s12 a w' => ∃ i : (Value × (Nat → Prop)), Has ⟨44, [], none⟩ a ([(0, .string s), (3, i.1), (4, .int .i64 s12.2)]) ∧ Hp w.heap.size i.2 w' (obS (α := ByteArray) 9 i.1 s12.1 :: []) ∧ Tr Dw w.heap.size A w i.2 w') (fun a ha => ⟨(.slice none 0 0, A), ha.sub ⟨rfl, rfl, rfl, trivial⟩, ⟨hH, Tr.refl (Dw := Dw) hA⟩⟩) ?_
    rintro K s12 a w13 ⟨⟨v14, A16⟩, ha83, hH17, hr3⟩ K24
    refine C_of ?_ ha83
    replace hK := Tr.trans (Dw := Dw) hK hr3
    replace hB := Nat.le_trans hB hr3.ex.size
    replace hA := hr3.new
    replace hH : Hp w.heap.size A16 w13 (obS (α := ByteArray) 9 v14 s12.1 :: []) := hH17
    obtain ⟨x18, h19, h20⟩ := K24
    refine C_seq ?_
    refine C_seq ?_
    refine C_region ?_
    refine V_y (Y_move rfl) rfl rfl rfl ?_
    refine V_y (Y_move rfl) rfl rfl rfl ?_
    refine V_y (Y_lenStr rfl Tryz.underlying9 rfl) rfl rfl rfl ?_
    refine V_y (Y_lss rfl rfl) rfl rfl rfl ?_
    refine V_to (fun _ _ => rfl) ?_
    refine C_cond rfl (fun hc25 => ?_) (fun hc25 => ?_)
    · rw [if_pos hc25] at h19
      refine C_skip_to (fun _ _ => rfl) ?_
      refine C_seq ?_
      refine C_block ?_
      refine C_seq ?_
      refine C_region ?_
      refine V_y (Y_move rfl) rfl rfl rfl ?_
      refine V_y (Y_assign rfl) rfl rfl rfl ?_
      refine V_to (fun _ _ => rfl) ?_
      refine C_seq ?_
      obtain ⟨o26, ho26, h19⟩ := Option.bind_eq_some_iff.1 h19
      refine C_cutG (ι := Int) (fun (s27 : Int) => [(0, .string s), (3, v14), (4, .int .i64 s12.2), (5, .int .i64 s27)]) (fun (s27 : Int) => fun w' => o26 = .fin s27 ∧ w13 = w') ?_ ?_
      · refine C_block ?_
        refine C_while ho26 (fun s33 a w' => ∃ i : Unit, Has ⟨44, [], none⟩ a ([(0, .string s), (3, v14), (4, .int .i64 s12.2), (5, .int .i64 s33)]) ∧ w13 = w') (fun a ha => ⟨(), ha.sub ⟨rfl, rfl, rfl, rfl, trivial⟩, rfl⟩) ?_
        rintro K s33 a _ ⟨_, ha48, rfl⟩ K41
        refine C_of ?_ ha48
        obtain ⟨x35, h36, h37⟩ := K41
        refine C_seq ?_
        refine C_seq ?_
        refine C_region ?_
        refine V_y (Y_move rfl) rfl rfl rfl ?_
        refine V_y (Y_move rfl) rfl rfl rfl ?_
        refine V_y (Y_lenStr rfl Tryz.underlying9 rfl) rfl rfl rfl ?_
        refine V_y (Y_lss rfl rfl) rfl rfl rfl ?_
        refine V_y (Y_move rfl) rfl rfl rfl ?_
        obtain ⟨s43, hs43, h36⟩ := Option.bind_eq_some_iff.1 h36
        refine V_cut 5 (fun _ : Unit => [(0, .string s), (3, v14), (4, .int .i64 s12.2), (5, .int .i64 s33), (22, .bool s43)]) (fun _ w' => w13 = w') ?_ ?_
        · simp only [List.take, List.drop]
          rcases Bool.eq_false_or_eq_true (decide (s33 < (s.size : Int))) with hc42 | hc42
          · rw [if_pos hc42] at hs43
            refine V_ge rfl rfl rfl hc42 ?_
            refine V_y (Y_move rfl) rfl rfl rfl ?_
            refine V_ge rfl rfl rfl hc42 ?_
            refine V_y (Y_move rfl) rfl rfl rfl ?_
            refine V_ge rfl rfl rfl hc42 ?_
            obtain ⟨x44, hx44, hs43⟩ := Option.bind_eq_some_iff.1 hs43
            refine V_y (Y_indexS hx44 Tryz.underlying9 rfl rfl) rfl rfl rfl ?_
            refine V_ge rfl rfl rfl hc42 ?_
            refine V_call Tryz.call33 rfl rfl rfl rfl (know_inWord_c w13 (x44.toNat : Int)) ?_
            rintro _ _ ⟨rfl, rfl⟩
            refine V_y (Y_pick_te rfl hc42 rfl) rfl rfl rfl ?_
            obtain rfl := Option.some.inj hs43
            exact V_end fun a ha => ⟨(), ha.sub ⟨rfl, rfl, rfl, rfl, rfl, trivial⟩, rfl⟩
          · rw [if_neg (nt hc42)] at hs43
            refine V_gn rfl rfl rfl hc42 rfl rfl rfl ?_
            refine V_gn rfl rfl rfl hc42 rfl rfl rfl ?_
            refine V_gn rfl rfl rfl hc42 rfl rfl rfl ?_
            refine V_gn rfl rfl rfl hc42 rfl rfl rfl ?_
            refine V_y (Y_pick_fe rfl hc42 rfl) rfl rfl rfl ?_
            obtain rfl := Option.some.inj hs43
            exact V_end fun a ha => ⟨(), ha.sub ⟨rfl, rfl, rfl, rfl, rfl, trivial⟩, rfl⟩
        simp only [List.take, List.drop]
        rintro _ _ rfl
        refine V_to (fun _ _ => rfl) ?_
        refine C_cond rfl (fun hc45 => ?_) (fun hc45 => ?_)
        · rw [if_pos hc45] at h36
          refine C_skip_to (fun _ _ => rfl) ?_
          refine C_block ?_
          refine C_region ?_
          refine V_y (Y_move rfl) rfl rfl rfl ?_
          refine V_y (Y_addI rfl rfl) rfl rfl rfl ?_
          refine V_y (Y_assign rfl) rfl rfl rfl ?_
          obtain rfl := Option.some.inj h36
          refine V_end (fun a ha46 => ?_)
          exact ⟨w64 (s33 + 1), h37, ⟨(), ha46.sub ⟨rfl, rfl, rfl, rfl, trivial⟩, rfl⟩⟩
        · rw [if_neg (nt hc45)] at h36
          obtain rfl := Option.some.inj h36
          refine C_exit (fun a ha47 => ?_)
          exact ⟨s33, ha47.sub ⟨rfl, rfl, rfl, rfl, trivial⟩, ⟨h37.symm, rfl⟩⟩
      rintro s27 _ ⟨rfl, rfl⟩ a ha32
      rw [Lp.andThen_fin] at h19
      refine C_at (n := ⟨44, [], none⟩) (fun _ _ => rfl) ?_ ha32
      refine C_seq ?_
      refine C_seq ?_
      refine C_region ?_
      refine V_y (Y_move rfl) rfl rfl rfl ?_
      refine V_y (Y_move rfl) rfl rfl rfl ?_
      refine V_y (Y_gtr rfl rfl) rfl rfl rfl ?_
      refine V_y (Y_move rfl) rfl rfl rfl ?_
      refine V_cut 5 (fun _ : Unit => [(0, .string s), (3, v14), (4, .int .i64 s12.2), (5, .int .i64 s27), (33, .bool ((decide (s12.2 < s27)) && (decide ((w64 (s27 - s12.2)) ≤ 30))))]) (fun _ w' => w13 = w') ?_ ?_
      · simp only [List.take, List.drop]
        rcases Bool.eq_false_or_eq_true (decide (s12.2 < s27)) with hc49 | hc49
        · refine V_ge rfl rfl rfl hc49 ?_
          refine V_y (Y_move rfl) rfl rfl rfl ?_
          refine V_ge rfl rfl rfl hc49 ?_
          refine V_y (Y_move rfl) rfl rfl rfl ?_
          refine V_ge rfl rfl rfl hc49 ?_
          refine V_y (Y_subI rfl rfl) rfl rfl rfl ?_
          refine V_ge rfl rfl rfl hc49 ?_
          refine V_y (Y_leq rfl rfl) rfl rfl rfl ?_
          refine V_y (Y_pick_te rfl hc49 rfl) rfl rfl rfl ?_
          exact V_end fun a ha => ⟨(), ha.sub ⟨rfl, rfl, rfl, rfl, (by rw [hc49]; rfl), trivial⟩, rfl⟩
        · refine V_gn rfl rfl rfl hc49 rfl rfl rfl ?_
          refine V_gn rfl rfl rfl hc49 rfl rfl rfl ?_
          refine V_gn rfl rfl rfl hc49 rfl rfl rfl ?_
          refine V_gn rfl rfl rfl hc49 rfl rfl rfl ?_
          refine V_y (Y_pick_fe rfl hc49 rfl) rfl rfl rfl ?_
          exact V_end fun a ha => ⟨(), ha.sub ⟨rfl, rfl, rfl, rfl, (by rw [hc49]; rfl), trivial⟩, rfl⟩
      simp only [List.take, List.drop]
      rintro _ _ rfl
      refine V_to (fun _ _ => rfl) ?_
      obtain ⟨s52, ho51, h19⟩ := Option.bind_eq_some_iff.1 h19
      refine C_cutG (ι := (Value × (Nat → Prop))) (fun ⟨v54, A59⟩ => [(0, .string s), (3, v54), (5, .int .i64 s27)]) (fun ⟨v54, A59⟩ => fun w' => Hp w.heap.size A59 w' (obS (α := ByteArray) 9 v54 s52 :: []) ∧ Tr Dw w.heap.size A16 w13 A59 w') ?_ ?_
      · have hr53 : Tr Dw w.heap.size A16 w13 A16 w13 := Tr.refl (Dw := Dw) hA
        refine C_cond rfl (fun hc61 => ?_) (fun hc61 => ?_)
        · rw [if_pos hc61] at ho51
          refine C_region ?_
          refine V_y (Y_move rfl) rfl rfl rfl ?_
          refine V_y (Y_move rfl) rfl rfl rfl ?_
          refine V_y (Y_move rfl) rfl rfl rfl ?_
          refine V_y (Y_move rfl) rfl rfl rfl ?_
          obtain ⟨x62, hx62, ho51⟩ := Option.bind_eq_some_iff.1 ho51
          refine V_y (Y_sliceSLH hx62 Tryz.underlying9 rfl rfl rfl) rfl rfl rfl ?_
          obtain ⟨x63, hx63, ho51⟩ := Option.bind_eq_some_iff.1 ho51
          refine V_call Tryz.call34 rfl rfl rfl rfl (know_lower_c (Dw := Dw) w13 hA x62 hx63) ?_
          rintro _ w65 ⟨rfl, hk66⟩
          have ht67 := Kp.tr (Dw := Dw) hk66 hA hB
          replace hH := Hp.kp (Dw := Dw) hH hk66
          replace hK := Tr.trans (Dw := Dw) hK ht67
          replace hr3 := Tr.trans (Dw := Dw) hr3 ht67
          replace hr53 := Tr.trans (Dw := Dw) hr53 ht67
          replace hB := Nat.le_trans hB ht67.ex.size
          replace hA := ht67.new
          refine V_buildSlice (Dw := Dw) (l := ([x63] : List ByteArray)) (len := 1) Tryz.underlying37 Tryz.sizeOf9 Tryz.zeroValue9 rfl (by with_unfolding_all rfl) (show (1 * 1 : Nat) ≠ 0 by decide) (show (1 * 1 : Nat) ≤ 2 ^ 24 by decide) hA ⟨[.string x63], _, rfl, rfl, rfl⟩ rfl rfl ?_
          intro v68 w69 hk71 h70
          have ht72 := Kp.tr (Dw := Dw) hk71 hA hB
          replace hH := Hp.kp (Dw := Dw) hH hk71
          replace hK := Tr.trans (Dw := Dw) hK ht72
          replace hr3 := Tr.trans (Dw := Dw) hr3 ht72
          replace hr53 := Tr.trans (Dw := Dw) hr53 ht72
          replace hB := Nat.le_trans hB ht72.ex.size
          replace hA := ht72.new
          obtain ⟨x73, hx73, ho51⟩ := Option.bind_eq_some_iff.1 ho51
          refine V_appendH (Dw := Dw) (e := 9) (v := v14) (l := s12.1) (ti := Tryz.t9) (bytes := 16) (lim := 8796093022208) hH (i := 0) rfl h70 hx73 Tryz.underlying37 Tryz_info9 rfl rfl rfl rfl (by decide) (by decide) (by decide) hB hA rfl rfl rfl ?_
          intro v74 w75 A76 hH77 ht78
          replace h70 := Sl.tr (Dw := Dw) h70 ht78
          replace hK := Tr.trans (Dw := Dw) hK ht78
          replace hr3 := Tr.trans (Dw := Dw) hr3 ht78
          replace hr53 := Tr.trans (Dw := Dw) hr53 ht78
          replace hB := Nat.le_trans hB ht78.ex.size
          replace hA := ht78.new
          replace hH : Hp w.heap.size A76 w75 (obS (α := ByteArray) 9 v74 x73 :: []) := hH77
          refine V_y (Y_assign rfl) rfl rfl rfl ?_
          obtain rfl := Option.some.inj ho51
          refine V_end (fun a ha79 => ?_)
          exact ⟨(v74, A76), ha79.sub ⟨rfl, rfl, rfl, trivial⟩, ⟨hH, hr53⟩⟩
        · rw [if_neg (nt hc61)] at ho51
          obtain rfl := Option.some.inj ho51
          refine C_skip (fun a ha80 => ?_)
          exact ⟨(v14, A16), ha80.sub ⟨rfl, rfl, rfl, trivial⟩, ⟨hH, hr53⟩⟩
      rintro ⟨v54, A59⟩ w56 ⟨hH60, hk57⟩ a ha58
      replace hK := Tr.trans (Dw := Dw) hK hk57
      replace hr3 := Tr.trans (Dw := Dw) hr3 hk57
      replace hB := Nat.le_trans hB hk57.ex.size
      replace hA := hk57.new
      replace hH : Hp w.heap.size A59 w56 (obS (α := ByteArray) 9 v54 s52 :: []) := hH60
      refine C_at (n := ⟨44, [], none⟩) (fun _ _ => rfl) ?_ ha58
      refine C_region ?_
      refine V_y (Y_move rfl) rfl rfl rfl ?_
      refine V_y (Y_assign rfl) rfl rfl rfl ?_
      refine V_to (fun _ _ => rfl) ?_
      refine C_region ?_
      refine V_y (Y_move rfl) rfl rfl rfl ?_
      refine V_y (Y_addI rfl rfl) rfl rfl rfl ?_
      refine V_y (Y_assign rfl) rfl rfl rfl ?_
      obtain rfl := Option.some.inj h19
      refine V_end (fun a ha81 => ?_)
      exact ⟨(s52, w64 (s27 + 1)), h20, ⟨(v54, A59), ha81.sub ⟨rfl, rfl, rfl, trivial⟩, ⟨hH, hr3⟩⟩⟩
    · rw [if_neg (nt hc25)] at h19
      obtain rfl := Option.some.inj h19
      refine C_exit (fun a ha82 => ?_)
      exact ⟨((s12.1, s12.2), v14, A16), ha82.sub ⟨rfl, trivial⟩, ⟨h20.symm, hH, hr3⟩⟩
  rintro ⟨s2, v8, A10⟩ w5 ⟨rfl, hH11, hk6⟩ a ha7
  rw [Lp.andThen_fin] at hm
  replace hK := Tr.trans (Dw := Dw) hK hk6
  replace hB := Nat.le_trans hB hk6.ex.size
  replace hA := hk6.new
  replace hH : Hp w.heap.size A10 w5 (obS (α := ByteArray) 9 v8 s2.1 :: []) := hH11
  refine C_at (n := ⟨44, [], none⟩) (fun _ _ => rfl) ?_ ha7
  refine C_seq ?_
  refine C_region ?_
  refine V_y (Y_move rfl) rfl rfl rfl ?_
  refine V_y (Y_assign rfl) rfl rfl rfl ?_
  refine V_to (fun _ _ => rfl) ?_
  obtain rfl := Option.some.inj hm
  refine C_ret ?_
  try simp only [↓inBlock_ret, ↓then_ret]
  exact retQ rfl (Res.one Tryz.results10 rfl) ⟨v8, rfl, (Hp.ownd hH (i := 0) rfl), hK.kp⟩

set_option maxRecDepth 4000 in
set_option maxHeartbeats 4000000 in
theorem cmp_isNaN_int_c (w : World) (x : Int) : Ret Tryz.prog 37 #[.int .i64 x] w fun v w' => v = .bool (cmp_isNaN_int x) ∧ w = w' := by
  generalize hm : cmp_isNaN_int x = r
  unfold cmp_isNaN_int at hm
  refine enter Tryz.func37 rfl Tryz.ntmps37 rfl ?_
  refine C_seq ?_
  refine C_region ?_
  refine V_y (Y_assign rfl) rfl rfl rfl ?_
  refine V_to (fun _ _ => rfl) ?_
  refine C_seq ?_
  refine C_region ?_
  refine V_y (Y_move rfl) rfl rfl rfl ?_
  refine V_y (Y_move rfl) rfl rfl rfl ?_
  refine V_y (Y_neq rfl rfl) rfl rfl rfl ?_
  refine V_y (Y_assign rfl) rfl rfl rfl ?_
  refine V_to (fun _ _ => rfl) ?_
  obtain rfl := hm
  refine C_ret ?_
  try simp only [↓inBlock_ret, ↓then_ret]
  exact retQ rfl (Res.one Tryz.results37 rfl) ⟨rfl, rfl⟩

set_option maxRecDepth 4000 in
set_option maxHeartbeats 4000000 in
theorem cmp_Less_int_c (w : World) (x : Int) (y : Int) : Ret Tryz.prog 80 #[.int .i64 x, .int .i64 y] w fun v w' => v = .bool (cmp_Less_int x y) ∧ w = w' := by
  generalize hm : cmp_Less_int x y = r
  unfold cmp_Less_int at hm
  refine enter Tryz.func80 rfl Tryz.ntmps80 rfl ?_
  refine C_seq ?_
  refine C_region ?_
  refine V_y (Y_assign rfl) rfl rfl rfl ?_
  refine V_to (fun _ _ => rfl) ?_
  refine C_seq ?_
  refine C_region ?_
  refine V_y (Y_move rfl) rfl rfl rfl ?_
  refine V_call Tryz.call37 rfl rfl rfl rfl (cmp_isNaN_int_c w x) ?_
  rintro _ _ ⟨rfl, rfl⟩
  refine V_y (Y_move rfl) rfl rfl rfl ?_
  refine V_cut 4 (fun _ : Unit => [(0, .int .i64 x), (1, .int .i64 y), (11, .bool ((cmp_isNaN_int x) && (!(cmp_isNaN_int y))))]) (fun _ w' => w = w') ?_ ?_
  · simp only [List.take, List.drop]
    rcases Bool.eq_false_or_eq_true ((cmp_isNaN_int x)) with hc1 | hc1
    · refine V_ge rfl rfl rfl hc1 ?_
      refine V_y (Y_move rfl) rfl rfl rfl ?_
      refine V_ge rfl rfl rfl hc1 ?_
      refine V_call Tryz.call37 rfl rfl rfl rfl (cmp_isNaN_int_c w y) ?_
      rintro _ _ ⟨rfl, rfl⟩
      refine V_ge rfl rfl rfl hc1 ?_
      refine V_y (Y_not rfl) rfl rfl rfl ?_
      refine V_y (Y_pick_te rfl hc1 rfl) rfl rfl rfl ?_
      exact V_end fun a ha => ⟨(), ha.sub ⟨rfl, rfl, (by rw [hc1]; rfl), trivial⟩, rfl⟩
    · refine V_gn rfl rfl rfl hc1 rfl rfl rfl ?_
      refine V_gn rfl rfl rfl hc1 rfl rfl rfl ?_
      refine V_gn rfl rfl rfl hc1 rfl rfl rfl ?_
      refine V_y (Y_pick_fe rfl hc1 rfl) rfl rfl rfl ?_
      exact V_end fun a ha => ⟨(), ha.sub ⟨rfl, rfl, (by rw [hc1]; rfl), trivial⟩, rfl⟩
  simp only [List.take, List.drop]
  rintro _ _ rfl
  refine V_y (Y_move rfl) rfl rfl rfl ?_
  refine V_cut 4 (fun _ : Unit => [(16, .bool (((cmp_isNaN_int x) && (!(cmp_isNaN_int y))) || (decide (x < y))))]) (fun _ w' => w = w') ?_ ?_
  · simp only [List.take, List.drop]
    rcases Bool.eq_false_or_eq_true (((cmp_isNaN_int x) && (!(cmp_isNaN_int y)))) with hc3 | hc3
    · refine V_gn rfl rfl rfl hc3 rfl rfl rfl ?_
      refine V_gn rfl rfl rfl hc3 rfl rfl rfl ?_
      refine V_gn rfl rfl rfl hc3 rfl rfl rfl ?_
      refine V_y (Y_pick_te rfl hc3 rfl) rfl rfl rfl ?_
      exact V_end fun a ha => ⟨(), ha.sub ⟨(by rw [hc3]; rfl), trivial⟩, rfl⟩
    · refine V_ge rfl rfl rfl hc3 ?_
      refine V_y (Y_move rfl) rfl rfl rfl ?_
      refine V_ge rfl rfl rfl hc3 ?_
      refine V_y (Y_move rfl) rfl rfl rfl ?_
      refine V_ge rfl rfl rfl hc3 ?_
      refine V_y (Y_lss rfl rfl) rfl rfl rfl ?_
      refine V_y (Y_pick_fe rfl hc3 rfl) rfl rfl rfl ?_
      exact V_end fun a ha => ⟨(), ha.sub ⟨(by rw [hc3]; rfl), trivial⟩, rfl⟩
  simp only [List.take, List.drop]
  rintro _ _ rfl
  refine V_y (Y_assign rfl) rfl rfl rfl ?_
  refine V_to (fun _ _ => rfl) ?_
  obtain rfl := hm
  refine C_ret ?_
  try simp only [↓inBlock_ret, ↓then_ret]
  exact retQ rfl (Res.one Tryz.results80 rfl) ⟨rfl, rfl⟩

set_option maxRecDepth 4000 in
set_option maxHeartbeats 4000000 in
theorem slices_isNaN_int_c (w : World) (x : Int) : Ret Tryz.prog 81 #[.int .i64 x] w fun v w' => v = .bool (slices_isNaN_int x) ∧ w = w' := by
  generalize hm : slices_isNaN_int x = r
  unfold slices_isNaN_int at hm
  refine enter Tryz.func81 rfl Tryz.ntmps81 rfl ?_
  refine C_seq ?_
  refine C_region ?_
  refine V_y (Y_assign rfl) rfl rfl rfl ?_
  refine V_to (fun _ _ => rfl) ?_
  refine C_seq ?_
  refine C_region ?_
  refine V_y (Y_move rfl) rfl rfl rfl ?_
  refine V_y (Y_move rfl) rfl rfl rfl ?_
  refine V_y (Y_neq rfl rfl) rfl rfl rfl ?_
  refine V_y (Y_assign rfl) rfl rfl rfl ?_
  refine V_to (fun _ _ => rfl) ?_
  obtain rfl := hm
  refine C_ret ?_
  try simp only [↓inBlock_ret, ↓then_ret]
  exact retQ rfl (Res.one Tryz.results81 rfl) ⟨rfl, rfl⟩

set_option maxRecDepth 4000 in
set_option maxHeartbeats 4000000 in
theorem slices_BinarySearch_Lint_int_c (w : World) {A : Nat → Prop} (x : (List Int)) (v_x : Value) (h_x : Sl A w v_x x) (target : Int) {r : (Int × Bool)} (hm : slices_BinarySearch_Lint_int x target = some r) : Ret Tryz.prog 52 #[v_x, .int .i64 target] w fun v w' => v = .tuple #[.int .i64 r.1, .bool r.2] ∧ w = w' := by
  unfold slices_BinarySearch_Lint_int at hm
  refine enter Tryz.func52 rfl Tryz.ntmps52 rfl ?_
  refine C_seq ?_
  refine C_region ?_
  refine V_y (Y_assign rfl) rfl rfl rfl ?_
  refine V_y (Y_assign rfl) rfl rfl rfl ?_
  refine V_to (fun _ _ => rfl) ?_
  refine C_seq ?_
  refine C_region ?_
  refine V_y (Y_move rfl) rfl rfl rfl ?_
  refine V_y (Y_lenSl h_x rfl Tryz.underlying22 rfl) rfl rfl rfl ?_
  refine V_y (Y_assign rfl) rfl rfl rfl ?_
  refine V_to (fun _ _ => rfl) ?_
  refine C_seq ?_
  refine C_region ?_
  refine V_y (Y_move rfl) rfl rfl rfl ?_
  refine V_y (Y_assign rfl) rfl rfl rfl ?_
  refine V_y (Y_assign rfl) rfl rfl rfl ?_
  refine V_to (fun _ _ => rfl) ?_
  refine C_seq ?_
  obtain ⟨o3, ho3, hm⟩ := Option.bind_eq_some_iff.1 hm
  refine C_cutG (ι := (Int × Int)) (fun (s4 : (Int × Int)) => [(0, v_x), (1, .int .i64 target), (6, .int .i64 (x.length : Int)), (7, .int .i64 s4.1)]) (fun (s4 : (Int × Int)) => fun w' => o3 = .fin s4 ∧ w = w') ?_ ?_
  · refine C_block ?_
    refine C_while ho3 (fun s10 a w' => ∃ i : Unit, Has ⟨54, [], none⟩ a ([(0, v_x), (1, .int .i64 target), (6, .int .i64 (x.length : Int)), (7, .int .i64 s10.1), (8, .int .i64 s10.2)]) ∧ w = w') (fun a ha => ⟨(), ha.sub ⟨rfl, rfl, rfl, rfl, rfl, trivial⟩, rfl⟩) ?_
    rintro K s10 a _ ⟨_, ha43, rfl⟩ K18
    refine C_of ?_ ha43
    obtain ⟨x12, h13, h14⟩ := K18
    refine C_seq ?_
    refine C_seq ?_
    refine C_region ?_
    refine V_y (Y_move rfl) rfl rfl rfl ?_
    refine V_y (Y_move rfl) rfl rfl rfl ?_
    refine V_y (Y_lss rfl rfl) rfl rfl rfl ?_
    refine V_to (fun _ _ => rfl) ?_
    refine C_cond rfl (fun hc19 => ?_) (fun hc19 => ?_)
    · rw [if_pos hc19] at h13
      refine C_skip_to (fun _ _ => rfl) ?_
      obtain ⟨s21, ho20, h13⟩ := Option.bind_eq_some_iff.1 h13
      refine C_cutG (ι := Unit) (fun (_ : Unit) => [(0, v_x), (1, .int .i64 target), (6, .int .i64 (x.length : Int)), (7, .int .i64 s21.1), (8, .int .i64 s21.2)]) (fun (_ : Unit) => fun w' => w = w') ?_ ?_
      · refine C_block ?_
        refine C_seq ?_
        refine C_region ?_
        refine V_y (Y_move rfl) rfl rfl rfl ?_
        refine V_y (Y_move rfl) rfl rfl rfl ?_
        refine V_y (Y_addI rfl rfl) rfl rfl rfl ?_
        refine V_y (Y_convI Tryz.underlying3 Tryz.underlying68 rfl) rfl rfl rfl ?_
        obtain ⟨x26, hx26, ho20⟩ := Option.bind_eq_some_iff.1 ho20
        refine V_y (Y_shr hx26 rfl rfl) rfl rfl rfl ?_
        refine V_y (Y_convI Tryz.underlying68 Tryz.underlying3 rfl) rfl rfl rfl ?_
        refine V_y (Y_assign rfl) rfl rfl rfl ?_
        refine V_to (fun _ _ => rfl) ?_
        refine C_seq ?_
        refine C_region ?_
        refine V_y (Y_move rfl) rfl rfl rfl ?_
        refine V_y (Y_move rfl) rfl rfl rfl ?_
        obtain ⟨x27, hx27, ho20⟩ := Option.bind_eq_some_iff.1 ho20
        refine V_indexAddr h_x hx27 Tryz.underlying22 Tryz.sizeOf3 rfl rfl rfl ?_
        intro b28 o29 h30
        refine V_y (Y_load (El.int h30) Tryz.isAgg3 rfl) rfl rfl rfl ?_
        refine V_y (Y_move rfl) rfl rfl rfl ?_
        refine V_call Tryz.call80 rfl rfl rfl rfl (cmp_Less_int_c w x27 target) ?_
        rintro _ _ ⟨rfl, rfl⟩
        refine V_to (fun _ _ => rfl) ?_
        obtain ⟨s32, ho31, ho20⟩ := Option.bind_eq_some_iff.1 ho20
        refine C_cutG (ι := Unit) (fun (_ : Unit) => [(0, v_x), (1, .int .i64 target), (6, .int .i64 (x.length : Int)), (7, .int .i64 s32.1), (8, .int .i64 s32.2)]) (fun (_ : Unit) => fun w' => w = w') ?_ ?_
        · refine C_cond rfl (fun hc37 => ?_) (fun hc37 => ?_)
          · rw [if_pos hc37] at ho31
            refine C_region ?_
            refine V_y (Y_move rfl) rfl rfl rfl ?_
            refine V_y (Y_addI rfl rfl) rfl rfl rfl ?_
            refine V_y (Y_assign rfl) rfl rfl rfl ?_
            obtain rfl := Option.some.inj ho31
            refine V_end (fun a ha38 => ?_)
            exact ⟨(), ha38.sub ⟨rfl, rfl, rfl, rfl, rfl, trivial⟩, rfl⟩
          · rw [if_neg (nt hc37)] at ho31
            refine C_region ?_
            refine V_y (Y_move rfl) rfl rfl rfl ?_
            refine V_y (Y_assign rfl) rfl rfl rfl ?_
            obtain rfl := Option.some.inj ho31
            refine V_end (fun a ha39 => ?_)
            exact ⟨(), ha39.sub ⟨rfl, rfl, rfl, rfl, rfl, trivial⟩, rfl⟩
        rintro _ _ rfl a ha36
        obtain rfl := Option.some.inj ho20
        exact ⟨(), ha36.sub ⟨rfl, rfl, rfl, rfl, rfl, trivial⟩, rfl⟩
      rintro _ _ rfl a ha25
      obtain rfl := Option.some.inj h13
      exact ⟨(s21.1, s21.2), h14, ⟨(), ha25.sub ⟨rfl, rfl, rfl, rfl, rfl, trivial⟩, rfl⟩⟩
    · rw [if_neg (nt hc19)] at h13
      obtain rfl := Option.some.inj h13
      refine C_exit (fun a ha42 => ?_)
      exact ⟨(s10.1, s10.2), ha42.sub ⟨rfl, rfl, rfl, rfl, trivial⟩, ⟨h14.symm, rfl⟩⟩
  rintro s4 _ ⟨rfl, rfl⟩ a ha9
  rw [Lp.andThen_fin] at hm
  refine C_at (n := ⟨54, [], none⟩) (fun _ _ => rfl) ?_ ha9
  refine C_seq ?_
  refine C_region ?_
  refine V_y (Y_move rfl) rfl rfl rfl ?_
  refine V_y (Y_move rfl) rfl rfl rfl ?_
  refine V_y (Y_move rfl) rfl rfl rfl ?_
  refine V_y (Y_lss rfl rfl) rfl rfl rfl ?_
  refine V_y (Y_move rfl) rfl rfl rfl ?_
  obtain ⟨s45, hs45, hm⟩ := Option.bind_eq_some_iff.1 hm
  refine V_cut 18 (fun _ : Unit => [(31, .int .i64 s4.1), (53, .bool s45)]) (fun _ w' => w = w') ?_ ?_
  · simp only [List.take, List.drop]
    rcases Bool.eq_false_or_eq_true (decide (s4.1 < (x.length : Int))) with hc44 | hc44
    · rw [if_pos hc44] at hs45
      refine V_ge rfl rfl rfl hc44 ?_
      refine V_y (Y_move rfl) rfl rfl rfl ?_
      refine V_ge rfl rfl rfl hc44 ?_
      refine V_y (Y_move rfl) rfl rfl rfl ?_
      refine V_ge rfl rfl rfl hc44 ?_
      obtain ⟨x46, hx46, hs45⟩ := Option.bind_eq_some_iff.1 hs45
      refine V_indexAddr h_x hx46 Tryz.underlying22 Tryz.sizeOf3 rfl rfl rfl ?_
      intro b47 o48 h49
      refine V_ge rfl rfl rfl hc44 ?_
      refine V_y (Y_load (El.int h49) Tryz.isAgg3 rfl) rfl rfl rfl ?_
      refine V_ge rfl rfl rfl hc44 ?_
      refine V_y (Y_move rfl) rfl rfl rfl ?_
      refine V_ge rfl rfl rfl hc44 ?_
      refine V_y (Y_eql rfl rfl) rfl rfl rfl ?_
      refine V_ge rfl rfl rfl hc44 ?_
      refine V_y (Y_move rfl) rfl rfl rfl ?_
      obtain ⟨s51, hs51, hs45⟩ := Option.bind_eq_some_iff.1 hs45
      refine V_cut 10 (fun _ : Unit => [(31, .int .i64 s4.1), (35, .bool (decide (s4.1 < (x.length : Int)))), (52, .bool s51)]) (fun _ w' => w = w') ?_ ?_
      · simp only [List.take, List.drop]
        rcases Bool.eq_false_or_eq_true (x46 == target) with hc50 | hc50
        · rw [if_pos hc50] at hs51
          refine V_gn rfl rfl rfl hc50 rfl rfl rfl ?_
          refine V_gn rfl rfl rfl hc50 rfl rfl rfl ?_
          refine V_gn rfl rfl rfl hc50 rfl rfl rfl ?_
          refine V_gn rfl rfl rfl hc50 rfl rfl rfl ?_
          refine V_gn rfl rfl rfl hc50 rfl rfl rfl ?_
          refine V_gn rfl rfl rfl hc50 rfl rfl rfl ?_
          refine V_gu rfl rfl rfl rfl rfl ?_
          refine V_gu rfl rfl rfl rfl rfl ?_
          refine V_gn rfl rfl rfl hc50 rfl rfl rfl ?_
          refine V_ge rfl rfl rfl hc44 ?_
          refine V_y (Y_pick_te rfl hc50 rfl) rfl rfl rfl ?_
          obtain rfl := Option.some.inj hs51
          exact V_end fun a ha => ⟨(), ha.sub ⟨rfl, rfl, rfl, trivial⟩, rfl⟩
        · rw [if_neg (nt hc50)] at hs51
          refine V_ge rfl rfl rfl hc50 ?_
          refine V_y (Y_move rfl) rfl rfl rfl ?_
          refine V_ge rfl rfl rfl hc50 ?_
          refine V_y (Y_move rfl) rfl rfl rfl ?_
          refine V_ge rfl rfl rfl hc50 ?_
          refine V_indexAddr h_x hx46 Tryz.underlying22 Tryz.sizeOf3 rfl rfl rfl ?_
          intro b52 o53 h54
          refine V_ge rfl rfl rfl hc50 ?_
          refine V_y (Y_load (El.int h54) Tryz.isAgg3 rfl) rfl rfl rfl ?_
          refine V_ge rfl rfl rfl hc50 ?_
          refine V_call Tryz.call81 rfl rfl rfl rfl (slices_isNaN_int_c w x46) ?_
          rintro _ _ ⟨rfl, rfl⟩
          refine V_ge rfl rfl rfl hc50 ?_
          refine V_y (Y_move rfl) rfl rfl rfl ?_
          refine V_cut 3 (fun _ : Unit => [(31, .int .i64 s4.1), (35, .bool (decide (s4.1 < (x.length : Int)))), (42, .bool (x46 == target)), (51, .bool ((slices_isNaN_int x46) && (slices_isNaN_int target)))]) (fun _ w' => w = w') ?_ ?_
          · simp only [List.take, List.drop]
            rcases Bool.eq_false_or_eq_true ((slices_isNaN_int x46)) with hc55 | hc55
            · refine V_ge rfl rfl rfl hc55 ?_
              refine V_y (Y_move rfl) rfl rfl rfl ?_
              refine V_ge rfl rfl rfl hc55 ?_
              refine V_call Tryz.call81 rfl rfl rfl rfl (slices_isNaN_int_c w target) ?_
              rintro _ _ ⟨rfl, rfl⟩
              refine V_ge rfl rfl rfl hc50 ?_
              refine V_y (Y_pick_te rfl hc55 rfl) rfl rfl rfl ?_
              exact V_end fun a ha => ⟨(), ha.sub ⟨rfl, rfl, rfl, (by rw [hc55]; rfl), trivial⟩, rfl⟩
            · refine V_gn rfl rfl rfl hc55 rfl rfl rfl ?_
              refine V_gn rfl rfl rfl hc55 rfl rfl rfl ?_
              refine V_ge rfl rfl rfl hc50 ?_
              refine V_y (Y_pick_fe rfl hc55 rfl) rfl rfl rfl ?_
              exact V_end fun a ha => ⟨(), ha.sub ⟨rfl, rfl, rfl, (by rw [hc55]; rfl), trivial⟩, rfl⟩
          simp only [List.take, List.drop]
          rintro _ _ rfl
          refine V_ge rfl rfl rfl hc44 ?_
          refine V_y (Y_pick_fe rfl hc50 rfl) rfl rfl rfl ?_
          obtain rfl := Option.some.inj hs51
          exact V_end fun a ha => ⟨(), ha.sub ⟨rfl, rfl, rfl, trivial⟩, rfl⟩
      simp only [List.take, List.drop]
      rintro _ _ rfl
      refine V_y (Y_pick_te rfl hc44 rfl) rfl rfl rfl ?_
      obtain rfl := Option.some.inj hs45
      exact V_end fun a ha => ⟨(), ha.sub ⟨rfl, rfl, trivial⟩, rfl⟩
    · rw [if_neg (nt hc44)] at hs45
      refine V_gn rfl rfl rfl hc44 rfl rfl rfl ?_
      refine V_gn rfl rfl rfl hc44 rfl rfl rfl ?_
      refine V_gn rfl rfl rfl hc44 rfl rfl rfl ?_
      refine V_gn rfl rfl rfl hc44 rfl rfl rfl ?_
      refine V_gn rfl rfl rfl hc44 rfl rfl rfl ?_
      refine V_gn rfl rfl rfl hc44 rfl rfl rfl ?_
      refine V_gn rfl rfl rfl hc44 rfl rfl rfl ?_
      refine V_gu rfl rfl rfl rfl rfl ?_
      refine V_gu rfl rfl rfl rfl rfl ?_
      refine V_gu rfl rfl rfl rfl rfl ?_
      refine V_gu rfl rfl rfl rfl rfl ?_
      refine V_gu rfl rfl rfl rfl rfl ?_
      refine V_gu rfl rfl rfl rfl rfl ?_
      refine V_gu rfl rfl rfl rfl rfl ?_
      refine V_gu rfl rfl rfl rfl rfl ?_
      refine V_gu rfl rfl rfl rfl rfl ?_
      refine V_gn rfl rfl rfl hc44 rfl rfl rfl ?_
      refine V_y (Y_pick_fe rfl hc44 rfl) rfl rfl rfl ?_
      obtain rfl := Option.some.inj hs45
      exact V_end fun a ha => ⟨(), ha.sub ⟨rfl, rfl, trivial⟩, rfl⟩
  simp only [List.take, List.drop]
  rintro _ _ rfl
  refine V_y (Y_assign rfl) rfl rfl rfl ?_
  refine V_y (Y_assign rfl) rfl rfl rfl ?_
  refine V_to (fun _ _ => rfl) ?_
  obtain rfl := Option.some.inj hm
  refine C_ret ?_
  try simp only [↓inBlock_ret, ↓then_ret]
  exact retQ rfl (Res.two Tryz.results52 rfl rfl) ⟨rfl, rfl⟩

set_option maxRecDepth 4000 in
set_option maxHeartbeats 4000000 in
theorem know_checkPositions_c (w : World) {A : Nat → Prop} (l : (List Int)) (v_l : Value) (h_l : Sl A w v_l l) (size : Int) {r : Int} (hm : know_checkPositions l size = some r) : Ret Tryz.prog 54 #[v_l, .int .i64 size] w fun v w' => v = .int .i64 r ∧ w = w' := by
  unfold know_checkPositions at hm
  refine enter Tryz.func54 rfl Tryz.ntmps54 rfl ?_
  refine C_seq ?_
  refine C_region ?_
  refine V_y (Y_assign rfl) rfl rfl rfl ?_
  refine V_to (fun _ _ => rfl) ?_
  refine C_seq ?_
  refine C_seq ?_
  refine C_region ?_
  refine V_y (Y_move rfl) rfl rfl rfl ?_
  refine V_y (Y_lenSl h_l rfl Tryz.underlying22 rfl) rfl rfl rfl ?_
  refine V_y (Y_move rfl) rfl rfl rfl ?_
  refine V_to (fun _ _ => rfl) ?_
  have hn19 := Sl.le h_l
  obtain ⟨o3, ho3, hm⟩ := Option.bind_eq_some_iff.1 hm
  refine C_cutG (ι := Unit) (fun (s4 : Unit) => [(0, v_l)]) (fun (s4 : Unit) => fun w' => o3 = .fin s4 ∧ w = w') ?_ ?_
  · refine C_block ?_
    refine C_range ho3 (fun k6 _ a w' => ∃ i : Unit, Has ⟨40, [], none⟩ a ([(0, v_l), (1, .int .i64 size), (9, v_l), (10, .int .i64 (l.length : Int)), (11, .int .i64 (k6 : Int))]) ∧ w = w') (fun a ha => ⟨(), ha.sub ⟨rfl, rfl, rfl, rfl, rfl, trivial⟩, rfl⟩) ?_
    rintro K k6 _ a _ ⟨_, ha28, rfl⟩ hle15 K18 h17
    refine C_of ?_ ha28
    refine C_seq (C_region (V_y (Y_lss rfl rfl) rfl rfl rfl (V_to (fun _ _ => rfl) ?_)))
    refine C_seq ?_
    refine C_cond rfl (fun hc20 => ?_) (fun hc20 => ?_)
    · have hlt16 := lt_of_dec hc20
      obtain ⟨x12, h13, h14⟩ := K18 hlt16
      refine C_skip_to (fun _ _ => rfl) ?_
      refine C_seq ?_
      refine C_block ?_
      refine C_seq ?_
      refine C_region ?_
      obtain ⟨x21, hx21, h13⟩ := Option.bind_eq_some_iff.1 h13
      refine V_indexAddr h_l hx21 Tryz.underlying22 Tryz.sizeOf3 rfl rfl rfl ?_
      intro b22 o23 h24
      refine V_y (Y_load (El.int h24) Tryz.isAgg3 rfl) rfl rfl rfl ?_
      refine V_y (Y_assign rfl) rfl rfl rfl ?_
      refine V_to (fun _ _ => rfl) ?_
      refine C_seq ?_
      refine C_region ?_
      refine V_y (Y_move rfl) rfl rfl rfl ?_
      refine V_y (Y_move rfl) rfl rfl rfl ?_
      refine V_y (Y_subI rfl rfl) rfl rfl rfl ?_
      refine V_call Tryz.call8 rfl rfl rfl rfl (know_within_c w x21 0 (w64 (size - 1))) ?_
      rintro _ _ ⟨rfl, rfl⟩
      refine V_y (Y_not rfl) rfl rfl rfl ?_
      refine V_to (fun _ _ => rfl) ?_
      refine C_cond rfl (fun hc25 => ?_) (fun hc25 => ?_)
      · rw [if_pos hc25] at h13
        refine C_seq ?_
        refine C_region ?_
        refine V_y (Y_assign rfl) rfl rfl rfl ?_
        refine V_to (fun _ _ => rfl) ?_
        obtain rfl := Option.some.inj h13
        obtain rfl := (h14 : Lp.rt _ = _)
        rw [Lp.andThen_rt] at hm
        obtain rfl := Option.some.inj hm
        refine C_ret ?_
        try simp only [↓inBlock_ret, ↓then_ret]
        exact retQ rfl (Res.one Tryz.results54 rfl) ⟨rfl, rfl⟩
      · rw [if_neg (nt hc25)] at h13
        refine C_skip_to (fun _ _ => rfl) ?_
        refine C_region ?_
        refine V_y (Y_addI rfl rfl) rfl rfl rfl ?_
        refine V_y (Y_move rfl) rfl rfl rfl ?_
        obtain rfl := Option.some.inj h13
        refine V_end (fun a ha26 => ?_)
        exact ⟨(), hlt16, h14, ⟨(), ha26.sub ⟨rfl, rfl, rfl, rfl, (congrArg (fun z => some (Value.int .i64 z)) (w64_succ hlt16 hn19)), trivial⟩, rfl⟩⟩
    · refine C_exit (fun a ha27 => ?_)
      exact ⟨(), ha27.sub ⟨rfl, trivial⟩, ⟨(h17 (eq_of_dec hle15 hc20)).symm, rfl⟩⟩
  rintro s4 _ ⟨rfl, rfl⟩ a ha9
  rw [Lp.andThen_fin] at hm
  refine C_at (n := ⟨40, [], none⟩) (fun _ _ => rfl) ?_ ha9
  refine C_seq ?_
  refine C_seq ?_
  refine C_region ?_
  refine V_y (Y_move rfl) rfl rfl rfl ?_
  refine V_y (Y_lenSl h_l rfl Tryz.underlying22 rfl) rfl rfl rfl ?_
  refine V_y (Y_move rfl) rfl rfl rfl ?_
  refine V_to (fun _ _ => rfl) ?_
  have hn45 := Sl.le h_l
  obtain ⟨o29, ho29, hm⟩ := Option.bind_eq_some_iff.1 hm
  refine C_cutG (ι := Unit) (fun (s30 : Unit) => []) (fun (s30 : Unit) => fun w' => o29 = .fin s30 ∧ w = w') ?_ ?_
  · refine C_block ?_
    refine C_range ho29 (fun k32 _ a w' => ∃ i : Unit, Has ⟨40, [], none⟩ a ([(0, v_l), (21, v_l), (22, .int .i64 (l.length : Int)), (23, .int .i64 (k32 : Int))]) ∧ w = w') (fun a ha => ⟨(), ha.sub ⟨rfl, rfl, rfl, rfl, trivial⟩, rfl⟩) ?_
    rintro K k32 _ a _ ⟨_, ha60, rfl⟩ hle41 K44 h43
    refine C_of ?_ ha60
    refine C_seq (C_region (V_y (Y_lss rfl rfl) rfl rfl rfl (V_to (fun _ _ => rfl) ?_)))
    refine C_seq ?_
    refine C_cond rfl (fun hc46 => ?_) (fun hc46 => ?_)
    · have hlt42 := lt_of_dec hc46
      obtain ⟨x38, h39, h40⟩ := K44 hlt42
      refine C_skip_to (fun _ _ => rfl) ?_
      refine C_seq ?_
      refine C_block ?_
      refine C_seq ?_
      refine C_region ?_
      refine V_y (Y_move rfl) rfl rfl rfl ?_
      obtain ⟨x47, hx47, h39⟩ := Option.bind_eq_some_iff.1 h39
      refine V_indexAddr h_l hx47 Tryz.underlying22 Tryz.sizeOf3 rfl rfl rfl ?_
      intro b48 o49 h50
      refine V_y (Y_load (El.int h50) Tryz.isAgg3 rfl) rfl rfl rfl ?_
      refine V_y (Y_assign rfl) rfl rfl rfl ?_
      refine V_y (Y_assign rfl) rfl rfl rfl ?_
      refine V_to (fun _ _ => rfl) ?_
      refine C_seq ?_
      refine C_region ?_
      refine V_y (Y_move rfl) rfl rfl rfl ?_
      refine V_y (Y_gtr rfl rfl) rfl rfl rfl ?_
      refine V_y (Y_move rfl) rfl rfl rfl ?_
      obtain ⟨s52, hs52, h39⟩ := Option.bind_eq_some_iff.1 h39
      refine V_cut 8 (fun _ : Unit => [(0, v_l), (21, v_l), (22, .int .i64 (l.length : Int)), (23, .int .i64 (k32 : Int)), (38, .bool s52)]) (fun _ w' => w = w') ?_ ?_
      · simp only [List.take, List.drop]
        rcases Bool.eq_false_or_eq_true (decide ((0 : Int) < (k32 : Int))) with hc51 | hc51
        · rw [if_pos hc51] at hs52
          refine V_ge rfl rfl rfl hc51 ?_
          refine V_y (Y_move rfl) rfl rfl rfl ?_
          refine V_ge rfl rfl rfl hc51 ?_
          refine V_y (Y_move rfl) rfl rfl rfl ?_
          refine V_ge rfl rfl rfl hc51 ?_
          refine V_y (Y_move rfl) rfl rfl rfl ?_
          refine V_ge rfl rfl rfl hc51 ?_
          refine V_y (Y_subI rfl rfl) rfl rfl rfl ?_
          refine V_ge rfl rfl rfl hc51 ?_
          obtain ⟨x53, hx53, hs52⟩ := Option.bind_eq_some_iff.1 hs52
          refine V_indexAddr h_l hx53 Tryz.underlying22 Tryz.sizeOf3 rfl rfl rfl ?_
          intro b54 o55 h56
          refine V_ge rfl rfl rfl hc51 ?_
          refine V_y (Y_load (El.int h56) Tryz.isAgg3 rfl) rfl rfl rfl ?_
          refine V_ge rfl rfl rfl hc51 ?_
          refine V_y (Y_leq rfl rfl) rfl rfl rfl ?_
          refine V_y (Y_pick_te rfl hc51 rfl) rfl rfl rfl ?_
          obtain rfl := Option.some.inj hs52
          exact V_end fun a ha => ⟨(), ha.sub ⟨rfl, rfl, rfl, rfl, rfl, trivial⟩, rfl⟩
        · rw [if_neg (nt hc51)] at hs52
          refine V_gn rfl rfl rfl hc51 rfl rfl rfl ?_
          refine V_gn rfl rfl rfl hc51 rfl rfl rfl ?_
          refine V_gn rfl rfl rfl hc51 rfl rfl rfl ?_
          refine V_gn rfl rfl rfl hc51 rfl rfl rfl ?_
          refine V_gn rfl rfl rfl hc51 rfl rfl rfl ?_
          refine V_gn rfl rfl rfl hc51 rfl rfl rfl ?_
          refine V_gn rfl rfl rfl hc51 rfl rfl rfl ?_
          refine V_y (Y_pick_fe rfl hc51 rfl) rfl rfl rfl ?_
          obtain rfl := Option.some.inj hs52
          exact V_end fun a ha => ⟨(), ha.sub ⟨rfl, rfl, rfl, rfl, rfl, trivial⟩, rfl⟩
      simp only [List.take, List.drop]
      rintro _ _ rfl
      refine V_to (fun _ _ => rfl) ?_
      refine C_cond rfl (fun hc57 => ?_) (fun hc57 => ?_)
      · rw [if_pos hc57] at h39
        refine C_seq ?_
        refine C_region ?_
        refine V_y (Y_assign rfl) rfl rfl rfl ?_
        refine V_to (fun _ _ => rfl) ?_
        obtain rfl := Option.some.inj h39
        obtain rfl := (h40 : Lp.rt _ = _)
        rw [Lp.andThen_rt] at hm
        obtain rfl := Option.some.inj hm
        refine C_ret ?_
        try simp only [↓inBlock_ret, ↓then_ret]
        exact retQ rfl (Res.one Tryz.results54 rfl) ⟨rfl, rfl⟩
      · rw [if_neg (nt hc57)] at h39
        refine C_skip_to (fun _ _ => rfl) ?_
        refine C_region ?_
        refine V_y (Y_addI rfl rfl) rfl rfl rfl ?_
        refine V_y (Y_move rfl) rfl rfl rfl ?_
        obtain rfl := Option.some.inj h39
        refine V_end (fun a ha58 => ?_)
        exact ⟨(), hlt42, h40, ⟨(), ha58.sub ⟨rfl, rfl, rfl, (congrArg (fun z => some (Value.int .i64 z)) (w64_succ hlt42 hn45)), trivial⟩, rfl⟩⟩
    · refine C_exit (fun a ha59 => ?_)
      exact ⟨(), ha59.sub trivial, ⟨(h43 (eq_of_dec hle41 hc46)).symm, rfl⟩⟩
  rintro s30 _ ⟨rfl, rfl⟩ a ha35
  rw [Lp.andThen_fin] at hm
  refine C_at (n := ⟨40, [], none⟩) (fun _ _ => rfl) ?_ ha35
  refine C_seq ?_
  refine C_region ?_
  refine V_y (Y_assign rfl) rfl rfl rfl ?_
  refine V_to (fun _ _ => rfl) ?_
  obtain rfl := Option.some.inj hm
  refine C_ret ?_
  try simp only [↓inBlock_ret, ↓then_ret]
  exact retQ rfl (Res.one Tryz.results54 rfl) ⟨rfl, rfl⟩

set_option maxRecDepth 4000 in
set_option maxHeartbeats 4000000 in
theorem cmp_Or_api_Errno_c (w : World) {A : Nat → Prop} (vals : (List Int)) (v_vals : Value) (h_vals : Sl A w v_vals vals) {r : Int} (hm : cmp_Or_api_Errno vals = some r) : Ret Tryz.prog 53 #[v_vals] w fun v w' => v = .int .i64 r ∧ w = w' := by
  unfold cmp_Or_api_Errno at hm
  refine enter Tryz.func53 rfl Tryz.ntmps53 rfl ?_
  refine C_seq ?_
  refine C_region ?_
  refine V_y (Y_assign rfl) rfl rfl rfl ?_
  refine V_to (fun _ _ => rfl) ?_
  refine C_seq ?_
  refine C_region ?_
  refine V_y (Y_assign rfl) rfl rfl rfl ?_
  refine V_to (fun _ _ => rfl) ?_
  refine C_seq ?_
  refine C_seq ?_
  refine C_region ?_
  refine V_y (Y_move rfl) rfl rfl rfl ?_
  refine V_y (Y_lenSl h_vals rfl Tryz.underlying106 rfl) rfl rfl rfl ?_
  refine V_y (Y_move rfl) rfl rfl rfl ?_
  refine V_to (fun _ _ => rfl) ?_
  have hn19 := Sl.le h_vals
  obtain ⟨o3, ho3, hm⟩ := Option.bind_eq_some_iff.1 hm
  refine C_cutG (ι := Unit) (fun (s4 : Unit) => [(3, .int .i64 0)]) (fun (s4 : Unit) => fun w' => o3 = .fin s4 ∧ w = w') ?_ ?_
  · refine C_block ?_
    refine C_range ho3 (fun k6 _ a w' => ∃ i : Unit, Has ⟨18, [], none⟩ a ([(3, .int .i64 0), (6, v_vals), (7, .int .i64 (vals.length : Int)), (8, .int .i64 (k6 : Int))]) ∧ w = w') (fun a ha => ⟨(), ha.sub ⟨rfl, rfl, rfl, rfl, trivial⟩, rfl⟩) ?_
    rintro K k6 _ a _ ⟨_, ha28, rfl⟩ hle15 K18 h17
    refine C_of ?_ ha28
    refine C_seq (C_region (V_y (Y_lss rfl rfl) rfl rfl rfl (V_to (fun _ _ => rfl) ?_)))
    refine C_seq ?_
    refine C_cond rfl (fun hc20 => ?_) (fun hc20 => ?_)
    · have hlt16 := lt_of_dec hc20
      obtain ⟨x12, h13, h14⟩ := K18 hlt16
      refine C_skip_to (fun _ _ => rfl) ?_
      refine C_seq ?_
      refine C_block ?_
      refine C_seq ?_
      refine C_region ?_
      obtain ⟨x21, hx21, h13⟩ := Option.bind_eq_some_iff.1 h13
      refine V_indexAddr h_vals hx21 Tryz.underlying106 Tryz.sizeOf27 rfl rfl rfl ?_
      intro b22 o23 h24
      refine V_y (Y_load (El.int h24) Tryz.isAgg27 rfl) rfl rfl rfl ?_
      refine V_y (Y_assign rfl) rfl rfl rfl ?_
      refine V_to (fun _ _ => rfl) ?_
      refine C_seq ?_
      refine C_region ?_
      refine V_y (Y_move rfl) rfl rfl rfl ?_
      refine V_y (Y_move rfl) rfl rfl rfl ?_
      refine V_y (Y_neq rfl rfl) rfl rfl rfl ?_
      refine V_to (fun _ _ => rfl) ?_
      refine C_cond rfl (fun hc25 => ?_) (fun hc25 => ?_)
      · rw [if_pos hc25] at h13
        refine C_seq ?_
        refine C_region ?_
        refine V_y (Y_move rfl) rfl rfl rfl ?_
        refine V_y (Y_assign rfl) rfl rfl rfl ?_
        refine V_to (fun _ _ => rfl) ?_
        obtain rfl := Option.some.inj h13
        obtain rfl := (h14 : Lp.rt _ = _)
        rw [Lp.andThen_rt] at hm
        obtain rfl := Option.some.inj hm
        refine C_ret ?_
        try simp only [↓inBlock_ret, ↓then_ret]
        exact retQ rfl (Res.one Tryz.results53 rfl) ⟨rfl, rfl⟩
      · rw [if_neg (nt hc25)] at h13
        refine C_skip_to (fun _ _ => rfl) ?_
        refine C_region ?_
        refine V_y (Y_addI rfl rfl) rfl rfl rfl ?_
        refine V_y (Y_move rfl) rfl rfl rfl ?_
        obtain rfl := Option.some.inj h13
        refine V_end (fun a ha26 => ?_)
        exact ⟨(), hlt16, h14, ⟨(), ha26.sub ⟨rfl, rfl, rfl, (congrArg (fun z => some (Value.int .i64 z)) (w64_succ hlt16 hn19)), trivial⟩, rfl⟩⟩
    · refine C_exit (fun a ha27 => ?_)
      exact ⟨(), ha27.sub ⟨rfl, trivial⟩, ⟨(h17 (eq_of_dec hle15 hc20)).symm, rfl⟩⟩
  rintro s4 _ ⟨rfl, rfl⟩ a ha9
  rw [Lp.andThen_fin] at hm
  refine C_at (n := ⟨18, [], none⟩) (fun _ _ => rfl) ?_ ha9
  refine C_seq ?_
  refine C_region ?_
  refine V_y (Y_move rfl) rfl rfl rfl ?_
  refine V_y (Y_assign rfl) rfl rfl rfl ?_
  refine V_to (fun _ _ => rfl) ?_
  obtain rfl := Option.some.inj hm
  refine C_ret ?_
  try simp only [↓inBlock_ret, ↓then_ret]
  exact retQ rfl (Res.one Tryz.results53 rfl) ⟨rfl, rfl⟩

set_option maxRecDepth 4000 in
set_option maxHeartbeats 4000000 in
theorem know_Index_checkTerm_c (w : World) {A : Nat → Prop} (hA : ∀ b, w.heap.size ≤ b → A b) (x : know_Index) (v_x0 : Value) (h_x0 : Sl A w v_x0 x.ids) (v_x1 : Value) (h_x1 : Sl A w v_x1 x.sizes) (v_x2 : Value) (h_x2 : Sl A w v_x2 x.terms) (t : know_Term) (v_t : Value) (h_t : Sl A w v_t t.list_) {r : Int} (hm : know_Index_checkTerm x t = some r) : Ret Tryz.prog 29 #[.agg #[v_x0, v_x1, v_x2], .agg #[.string t.word, v_t]] w fun v w' => v = .int .i64 r ∧ Kp Dw w w' := by
  unfold know_Index_checkTerm at hm
  refine enter Tryz.func29 rfl Tryz.ntmps29 rfl ?_
  have hA0 := hA
  have hB := Nat.le_refl w.heap.size
  have hK : Tr Dw w.heap.size A w A w := Tr.refl (Dw := Dw) hA
  have hH : Hp w.heap.size A w [] := Hp.nil
  refine C_seq ?_
  refine C_region ?_
  refine V_box rfl rfl ?_
  intro b9 w10 h11
  have hk13 := h11.kp (Dw := Dw)
  have h12 : El (α := know_Index) A w10 b9 0 x := h11.el hA ⟨[v_x0], _, rfl, ⟨_, rfl, h_x0⟩, ⟨[v_x1], _, rfl, ⟨_, rfl, h_x1⟩, ⟨_, rfl, h_x2⟩⟩⟩
  have ht14 := Kp.tr (Dw := Dw) hk13 hA hB
  replace hH := Hp.kp (Dw := Dw) hH hk13
  replace h_x0 := Sl.tr (Dw := Dw) h_x0 ht14
  replace h_x1 := Sl.tr (Dw := Dw) h_x1 ht14
  replace h_x2 := Sl.tr (Dw := Dw) h_x2 ht14
  replace h_t := Sl.tr (Dw := Dw) h_t ht14
  replace hK := Tr.trans (Dw := Dw) hK ht14
  replace hB := Nat.le_trans hB ht14.ex.size
  replace hA := ht14.new
  refine V_box rfl rfl ?_
  intro b15 w17 h18
  have hk20 := h18.kp (Dw := Dw)
  have h19 : El (α := know_Term) A w17 b15 0 t := h18.el hA ⟨[.string t.word], _, rfl, rfl, ⟨_, rfl, h_t⟩⟩
  have ht21 := Kp.tr (Dw := Dw) hk20 hA hB
  replace hH := Hp.kp (Dw := Dw) hH hk20
  replace h_x0 := Sl.tr (Dw := Dw) h_x0 ht21
  replace h_x1 := Sl.tr (Dw := Dw) h_x1 ht21
  replace h_x2 := Sl.tr (Dw := Dw) h_x2 ht21
  replace h_t := Sl.tr (Dw := Dw) h_t ht21
  replace h12 := El.tr (Dw := Dw) h12 ht21
  replace hK := Tr.trans (Dw := Dw) hK ht21
  replace hB := Nat.le_trans hB ht21.ex.size
  replace hA := ht21.new
  refine V_y (Y_assign rfl) rfl rfl rfl ?_
  refine V_to (fun _ _ => rfl) ?_
  refine C_seq ?_
  refine C_region ?_
  refine V_y (Y_assign rfl) rfl rfl rfl ?_
  refine V_to (fun _ _ => rfl) ?_
  refine C_seq ?_
  refine C_seq ?_
  refine C_region ?_
  have h22 := El_know_Term_1 h19
  refine V_y (Y_fieldAddr Tryz.underlying44 rfl Tryz.sizeOf42 (by decide) rfl) rfl rfl rfl ?_
  obtain ⟨v23, h24, h25⟩ := El.list h22
  refine V_y (Y_load h24 Tryz.isAgg42 rfl) rfl rfl rfl ?_
  refine V_y (Y_lenSl h25 rfl Tryz.underlying42 rfl) rfl rfl rfl ?_
  refine V_y (Y_move rfl) rfl rfl rfl ?_
  refine V_to (fun _ _ => rfl) ?_
  have hn46 := Sl.le h25
  obtain ⟨o26, ho26, hm⟩ := Option.bind_eq_some_iff.1 hm
  refine C_cutG (ι := (Int × (Nat → Prop))) (fun ⟨s27, A33⟩ => []) (fun ⟨s27, A33⟩ => fun w' => o26 = .fin s27 ∧ Hp w.heap.size A33 w' ([]) ∧ Tr Dw w.heap.size A w17 A33 w') ?_ ?_
  · refine C_block ?_
    refine C_range ho26 (fun k29 s35 a w' => ∃ i : (Nat → Prop), Has ⟨67, [], none⟩ a ([(2, .pointer (some ⟨b9, 0, none⟩)), (5, .int .i64 s35), (12, v23), (13, .int .i64 (t.list_.length : Int)), (14, .int .i64 (k29 : Int))]) ∧ Hp w.heap.size i w' ([]) ∧ Tr Dw w.heap.size A w17 i w') (fun a ha => ⟨A, ha.sub ⟨rfl, rfl, rfl, rfl, rfl, trivial⟩, ⟨hH, Tr.refl (Dw := Dw) hA⟩⟩) ?_
    rintro K k29 s35 a w36 ⟨A37, ha127, hH38, hr28⟩ hle42 K45 h44
    refine C_of ?_ ha127
    replace h12 := El.tr (Dw := Dw) h12 hr28
    replace h25 := Sl.tr (Dw := Dw) h25 hr28
    replace hK := Tr.trans (Dw := Dw) hK hr28
    replace hB := Nat.le_trans hB hr28.ex.size
    replace hA := hr28.new
    replace hH : Hp w.heap.size A37 w36 ([]) := hH38
    refine C_seq (C_region (V_y (Y_lss rfl rfl) rfl rfl rfl (V_to (fun _ _ => rfl) ?_)))
    refine C_seq ?_
    refine C_cond rfl (fun hc47 => ?_) (fun hc47 => ?_)
    · have hlt43 := lt_of_dec hc47
      obtain ⟨x39, h40, h41⟩ := K45 hlt43
      refine C_skip_to (fun _ _ => rfl) ?_
      refine C_seq ?_
      refine C_block ?_
      refine C_seq ?_
      refine C_region ?_
      obtain ⟨x48, hx48, h40⟩ := Option.bind_eq_some_iff.1 h40
      refine V_indexAddr h25 hx48 Tryz.underlying42 Tryz.sizeOf49 rfl rfl rfl ?_
      intro b49 o50 h51
      obtain ⟨v52, v54, h56, h53, h55⟩ := El_know_Posting h51
      refine V_y (Y_loadA h56 Tryz.isAgg49 Tryz.sizeOf49 rfl) rfl rfl rfl ?_
      refine V_alloc Tryz.zeroValue49 rfl ?_
      intro b57 w58 h59
      have h64 : (v52).oneCell' = true := by obtain ⟨_, _, e, _⟩ := Sl.form h53; rw [e]; rfl
      have h67 : (v54).oneCell' = true := by obtain ⟨_, _, e, _⟩ := Sl.form h55; rw [e]; rfl
      refine V_storeNew h59 Tryz.sizeOf49 rfl rfl rfl rfl (by exact (List.forall_mem_cons.2 ⟨rfl, (List.forall_mem_cons.2 ⟨h64, (List.forall_mem_cons.2 ⟨h67, (fun _ h => nomatch h)⟩)⟩)⟩)) ?_
      intro w60 h61
      have hk69 := h61.kp (Dw := Dw)
      have h68 : El (α := know_Posting) A37 w60 b57 0 x48 := h61.el hA ⟨[.int .i64 x48.id_], _, rfl, rfl, ⟨[v52], _, rfl, ⟨_, rfl, h53⟩, ⟨_, rfl, h55⟩⟩⟩
      have ht70 := Kp.tr (Dw := Dw) hk69 hA hB
      replace hH := Hp.kp (Dw := Dw) hH hk69
      replace h12 := El.tr (Dw := Dw) h12 ht70
      replace h25 := Sl.tr (Dw := Dw) h25 ht70
      replace h51 := El.tr (Dw := Dw) h51 ht70
      replace h53 := Sl.tr (Dw := Dw) h53 ht70
      replace h55 := Sl.tr (Dw := Dw) h55 ht70
      replace hK := Tr.trans (Dw := Dw) hK ht70
      replace hr28 := Tr.trans (Dw := Dw) hr28 ht70
      replace hB := Nat.le_trans hB ht70.ex.size
      replace hA := ht70.new
      refine V_to (fun _ _ => rfl) ?_
      refine C_seq ?_
      refine C_region ?_
      have h71 := El_know_Index_0 h12
      refine V_y (Y_fieldAddr Tryz.underlying25 rfl Tryz.sizeOf22 (by decide) rfl) rfl rfl rfl ?_
      obtain ⟨v72, h73, h74⟩ := El.list h71
      refine V_y (Y_load h73 Tryz.isAgg22 rfl) rfl rfl rfl ?_
      have h75 := El_know_Posting_0 h68
      refine V_y (Y_fieldAddr Tryz.underlying49 rfl Tryz.sizeOf3 (by decide) rfl) rfl rfl rfl ?_
      refine V_y (Y_load (El.int h75) Tryz.isAgg3 rfl) rfl rfl rfl ?_
      obtain ⟨x76, hx76, h40⟩ := Option.bind_eq_some_iff.1 h40
      refine V_call Tryz.call52 rfl rfl rfl rfl (slices_BinarySearch_Lint_int_c w60 x.ids v72 h74 x48.id_ hx76) ?_
      rintro _ _ ⟨rfl, rfl⟩
      refine V_y (Y_move rfl) rfl rfl rfl ?_
      refine V_y (Y_extract rfl rfl) rfl rfl rfl ?_
      refine V_y (Y_extract rfl rfl) rfl rfl rfl ?_
      refine V_y (Y_assign rfl) rfl rfl rfl ?_
      refine V_y (Y_assign rfl) rfl rfl rfl ?_
      refine V_to (fun _ _ => rfl) ?_
      refine C_seq ?_
      refine C_block ?_
      refine C_seq ?_
      refine C_region ?_
      refine V_y (Y_move rfl) rfl rfl rfl ?_
      refine V_y (Y_not rfl) rfl rfl rfl ?_
      refine V_y (Y_assign rfl) rfl rfl rfl ?_
      refine V_to (fun _ _ => rfl) ?_
      refine C_cond rfl (fun hc77 => ?_) (fun hc77 => ?_)
      · rw [if_pos hc77] at h40
        refine C_seq ?_
        refine C_region ?_
        refine V_y (Y_assign rfl) rfl rfl rfl ?_
        refine V_to (fun _ _ => rfl) ?_
        obtain rfl := Option.some.inj h40
        obtain rfl := (h41 : Lp.rt _ = _)
        rw [Lp.andThen_rt] at hm
        obtain rfl := Option.some.inj hm
        refine C_ret ?_
        try simp only [↓inBlock_ret, ↓then_ret]
        exact retQ rfl (Res.one Tryz.results29 rfl) ⟨rfl, hK.kp⟩
      · rw [if_neg (nt hc77)] at h40
        refine C_seq ?_
        refine C_region ?_
        have h78 := El_know_Posting_0 h68
        refine V_y (Y_fieldAddr Tryz.underlying49 rfl Tryz.sizeOf3 (by decide) rfl) rfl rfl rfl ?_
        refine V_y (Y_load (El.int h78) Tryz.isAgg3 rfl) rfl rfl rfl ?_
        refine V_y (Y_move rfl) rfl rfl rfl ?_
        refine V_y (Y_leq rfl rfl) rfl rfl rfl ?_
        refine V_y (Y_assign rfl) rfl rfl rfl ?_
        refine V_to (fun _ _ => rfl) ?_
        refine C_cond rfl (fun hc79 => ?_) (fun hc79 => ?_)
        · rw [if_pos hc79] at h40
          refine C_seq ?_
          refine C_region ?_
          refine V_y (Y_assign rfl) rfl rfl rfl ?_
          refine V_to (fun _ _ => rfl) ?_
          obtain rfl := Option.some.inj h40
          obtain rfl := (h41 : Lp.rt _ = _)
          rw [Lp.andThen_rt] at hm
          obtain rfl := Option.some.inj hm
          refine C_ret ?_
          try simp only [↓inBlock_ret, ↓then_ret]
          exact retQ rfl (Res.one Tryz.results29 rfl) ⟨rfl, hK.kp⟩
        · rw [if_neg (nt hc79)] at h40
          refine C_seq ?_
          refine C_region ?_
          have h80 := El_know_Posting_1 h68
          refine V_y (Y_fieldAddr Tryz.underlying49 rfl Tryz.sizeOf22 (by decide) rfl) rfl rfl rfl ?_
          obtain ⟨v81, h82, h83⟩ := El.list h80
          refine V_y (Y_load h82 Tryz.isAgg22 rfl) rfl rfl rfl ?_
          refine V_y (Y_lenSl h83 rfl Tryz.underlying22 rfl) rfl rfl rfl ?_
          have h84 := El_know_Posting_2 h68
          refine V_y (Y_fieldAddr Tryz.underlying49 rfl Tryz.sizeOf22 (by decide) rfl) rfl rfl rfl ?_
          obtain ⟨v85, h86, h87⟩ := El.list h84
          refine V_y (Y_load h86 Tryz.isAgg22 rfl) rfl rfl rfl ?_
          refine V_y (Y_lenSl h87 rfl Tryz.underlying22 rfl) rfl rfl rfl ?_
          refine V_y (Y_addI rfl rfl) rfl rfl rfl ?_
          refine V_y (Y_eql rfl rfl) rfl rfl rfl ?_
          refine V_y (Y_assign rfl) rfl rfl rfl ?_
          refine V_to (fun _ _ => rfl) ?_
          refine C_cond rfl (fun hc88 => ?_) (fun hc88 => ?_)
          · rw [if_pos hc88] at h40
            refine C_seq ?_
            refine C_region ?_
            refine V_y (Y_assign rfl) rfl rfl rfl ?_
            refine V_to (fun _ _ => rfl) ?_
            obtain rfl := Option.some.inj h40
            obtain rfl := (h41 : Lp.rt _ = _)
            rw [Lp.andThen_rt] at hm
            obtain rfl := Option.some.inj hm
            refine C_ret ?_
            try simp only [↓inBlock_ret, ↓then_ret]
            exact retQ rfl (Res.one Tryz.results29 rfl) ⟨rfl, hK.kp⟩
          · rw [if_neg (nt hc88)] at h40
            refine C_skip_to (fun _ _ => rfl) ?_
            refine C_seq ?_
            refine C_region ?_
            have h89 := El_know_Posting_0 h68
            refine V_y (Y_fieldAddr Tryz.underlying49 rfl Tryz.sizeOf3 (by decide) rfl) rfl rfl rfl ?_
            refine V_y (Y_load (El.int h89) Tryz.isAgg3 rfl) rfl rfl rfl ?_
            refine V_y (Y_assign rfl) rfl rfl rfl ?_
            refine V_to (fun _ _ => rfl) ?_
            refine C_seq ?_
            refine C_region_qt (Dw := Dw) 16 Tryz_mixed (by kernel_rfl) ?_
            simp only [List.take, List.drop]
            have h90 := El_know_Posting_1 h68
            refine VQ_y (fun w' hw' => Y_fieldAddr Tryz.underlying49 rfl Tryz.sizeOf22 (by decide) rfl) rfl rfl rfl ?_
            obtain ⟨v91, h92, h93⟩ := El.list h90
            refine VQ_y (fun w' hw' => Y_load ((World.cell?_of_block (hw'.block _ (World.block_lt_of_cell? _ _ h92))).trans h92) Tryz.isAgg22 rfl) rfl rfl rfl ?_
            have h94 := El_know_Index_1 h12
            refine VQ_y (fun w' hw' => Y_fieldAddr Tryz.underlying25 rfl Tryz.sizeOf22 (by decide) rfl) rfl rfl rfl ?_
            obtain ⟨v95, h96, h97⟩ := El.list h94
            refine VQ_y (fun w' hw' => Y_load ((World.cell?_of_block (hw'.block _ (World.block_lt_of_cell? _ _ h96))).trans h96) Tryz.isAgg22 rfl) rfl rfl rfl ?_
            refine VQ_y (fun w' hw' => Y_move rfl) rfl rfl rfl ?_
            obtain ⟨x98, hx98, h40⟩ := Option.bind_eq_some_iff.1 h40
            refine VQ_indexAddr h97 hx98 Tryz.underlying22 Tryz.sizeOf3 rfl rfl rfl ?_
            intro b99 o100 h101
            refine VQ_y (fun w' hw' => Y_load (El.int (El.kp (Dw := Dw) h101 hw')) Tryz.isAgg3 rfl) rfl rfl rfl ?_
            obtain ⟨x102, hx102, h40⟩ := Option.bind_eq_some_iff.1 h40
            refine VQ_call (.int .i64 x102) Tryz.call54 rfl rfl rfl rfl (fun w' hw' => (know_checkPositions_c w' x48.title v91 (Sl.kp (Dw := Dw) h93 hw') x98 hx102).mono (fun _ _ h => ⟨h.1, h.2 ▸ hw'⟩)) ?_
            have h103 := El_know_Posting_2 h68
            refine VQ_y (fun w' hw' => Y_fieldAddr Tryz.underlying49 rfl Tryz.sizeOf22 (by decide) rfl) rfl rfl rfl ?_
            obtain ⟨v104, h105, h106⟩ := El.list h103
            refine VQ_y (fun w' hw' => Y_load ((World.cell?_of_block (hw'.block _ (World.block_lt_of_cell? _ _ h105))).trans h105) Tryz.isAgg22 rfl) rfl rfl rfl ?_
            have h107 := El_know_Index_1 h12
            refine VQ_y (fun w' hw' => Y_fieldAddr Tryz.underlying25 rfl Tryz.sizeOf22 (by decide) rfl) rfl rfl rfl ?_
            obtain ⟨v108, h109, h110⟩ := El.list h107
            refine VQ_y (fun w' hw' => Y_load ((World.cell?_of_block (hw'.block _ (World.block_lt_of_cell? _ _ h109))).trans h109) Tryz.isAgg22 rfl) rfl rfl rfl ?_
            refine VQ_y (fun w' hw' => Y_move rfl) rfl rfl rfl ?_
            refine VQ_indexAddr h110 hx98 Tryz.underlying22 Tryz.sizeOf3 rfl rfl rfl ?_
            intro b111 o112 h113
            refine VQ_y (fun w' hw' => Y_load (El.int (El.kp (Dw := Dw) h113 hw')) Tryz.isAgg3 rfl) rfl rfl rfl ?_
            obtain ⟨x114, hx114, h40⟩ := Option.bind_eq_some_iff.1 h40
            refine VQ_call (.int .i64 x114) Tryz.call54 rfl rfl rfl rfl (fun w' hw' => (know_checkPositions_c w' x48.body v104 (Sl.kp (Dw := Dw) h106 hw') x98 hx114).mono (fun _ _ h => ⟨h.1, h.2 ▸ hw'⟩)) ?_
            refine VQ_tail (fun w115 hk116 => ?_)
            try simp only [List.take, List.drop]
            have ht117 := Kp.tr (Dw := Dw) hk116 hA hB
            replace hH := Hp.kp (Dw := Dw) hH hk116
            replace h12 := El.tr (Dw := Dw) h12 ht117
            replace h25 := Sl.tr (Dw := Dw) h25 ht117
            replace h68 := El.tr (Dw := Dw) h68 ht117
            replace h90 := El.tr (Dw := Dw) h90 ht117
            replace h93 := Sl.tr (Dw := Dw) h93 ht117
            replace h94 := El.tr (Dw := Dw) h94 ht117
            replace h97 := Sl.tr (Dw := Dw) h97 ht117
            replace h101 := El.tr (Dw := Dw) h101 ht117
            replace h103 := El.tr (Dw := Dw) h103 ht117
            replace h106 := Sl.tr (Dw := Dw) h106 ht117
            replace h107 := El.tr (Dw := Dw) h107 ht117
            replace h110 := Sl.tr (Dw := Dw) h110 ht117
            replace h113 := El.tr (Dw := Dw) h113 ht117
            replace hK := Tr.trans (Dw := Dw) hK ht117
            replace hr28 := Tr.trans (Dw := Dw) hr28 ht117
            replace hB := Nat.le_trans hB ht117.ex.size
            replace hA := ht117.new
            refine V_buildSlice (Dw := Dw) (l := ([x102, x114] : List Int)) (len := 2) Tryz.underlying106 Tryz.sizeOf27 Tryz.zeroValue27 rfl (by with_unfolding_all rfl) (show (2 * 1 : Nat) ≠ 0 by decide) (show (2 * 1 : Nat) ≤ 2 ^ 24 by decide) hA ⟨[.int .i64 x102], _, rfl, rfl, ⟨[.int .i64 x114], _, rfl, rfl, rfl⟩⟩ rfl rfl ?_
            intro v118 w119 hk121 h120
            have ht122 := Kp.tr (Dw := Dw) hk121 hA hB
            replace hH := Hp.kp (Dw := Dw) hH hk121
            replace h12 := El.tr (Dw := Dw) h12 ht122
            replace h25 := Sl.tr (Dw := Dw) h25 ht122
            replace h68 := El.tr (Dw := Dw) h68 ht122
            replace h90 := El.tr (Dw := Dw) h90 ht122
            replace h93 := Sl.tr (Dw := Dw) h93 ht122
            replace h94 := El.tr (Dw := Dw) h94 ht122
            replace h97 := Sl.tr (Dw := Dw) h97 ht122
            replace h101 := El.tr (Dw := Dw) h101 ht122
            replace h103 := El.tr (Dw := Dw) h103 ht122
            replace h106 := Sl.tr (Dw := Dw) h106 ht122
            replace h107 := El.tr (Dw := Dw) h107 ht122
            replace h110 := Sl.tr (Dw := Dw) h110 ht122
            replace h113 := El.tr (Dw := Dw) h113 ht122
            replace hK := Tr.trans (Dw := Dw) hK ht122
            replace hr28 := Tr.trans (Dw := Dw) hr28 ht122
            replace hB := Nat.le_trans hB ht122.ex.size
            replace hA := ht122.new
            obtain ⟨x123, hx123, h40⟩ := Option.bind_eq_some_iff.1 h40
            refine V_call Tryz.call53 rfl rfl rfl rfl (cmp_Or_api_Errno_c w119 ([x102, x114] : List Int) v118 h120 hx123) ?_
            rintro _ _ ⟨rfl, rfl⟩
            refine V_y (Y_assign rfl) rfl rfl rfl ?_
            refine V_to (fun _ _ => rfl) ?_
            refine C_seq ?_
            refine C_region ?_
            refine V_y (Y_move rfl) rfl rfl rfl ?_
            refine V_y (Y_neq rfl rfl) rfl rfl rfl ?_
            refine V_to (fun _ _ => rfl) ?_
            refine C_cond rfl (fun hc124 => ?_) (fun hc124 => ?_)
            · rw [if_pos hc124] at h40
              refine C_seq ?_
              refine C_region ?_
              refine V_y (Y_move rfl) rfl rfl rfl ?_
              refine V_y (Y_assign rfl) rfl rfl rfl ?_
              refine V_to (fun _ _ => rfl) ?_
              obtain rfl := Option.some.inj h40
              obtain rfl := (h41 : Lp.rt _ = _)
              rw [Lp.andThen_rt] at hm
              obtain rfl := Option.some.inj hm
              refine C_ret ?_
              try simp only [↓inBlock_ret, ↓then_ret]
              exact retQ rfl (Res.one Tryz.results29 rfl) ⟨rfl, hK.kp⟩
            · rw [if_neg (nt hc124)] at h40
              refine C_skip_to (fun _ _ => rfl) ?_
              refine C_region ?_
              refine V_y (Y_addI rfl rfl) rfl rfl rfl ?_
              refine V_y (Y_move rfl) rfl rfl rfl ?_
              obtain rfl := Option.some.inj h40
              refine V_end (fun a ha125 => ?_)
              exact ⟨x48.id_, hlt43, h41, ⟨A37, ha125.sub ⟨rfl, rfl, rfl, rfl, (congrArg (fun z => some (Value.int .i64 z)) (w64_succ hlt43 hn46)), trivial⟩, ⟨hH, hr28⟩⟩⟩
    · refine C_exit (fun a ha126 => ?_)
      exact ⟨(s35, A37), ha126.sub trivial, ⟨(h44 (eq_of_dec hle42 hc47)).symm, hH, hr28⟩⟩
  rintro ⟨s27, A33⟩ w30 ⟨rfl, hH34, hk31⟩ a ha32
  rw [Lp.andThen_fin] at hm
  replace hK := Tr.trans (Dw := Dw) hK hk31
  replace hB := Nat.le_trans hB hk31.ex.size
  replace hA := hk31.new
  replace hH : Hp w.heap.size A33 w30 ([]) := hH34
  refine C_at (n := ⟨67, [], none⟩) (fun _ _ => rfl) ?_ ha32
  refine C_seq ?_
  refine C_region ?_
  refine V_y (Y_assign rfl) rfl rfl rfl ?_
  refine V_to (fun _ _ => rfl) ?_
  obtain rfl := Option.some.inj hm
  refine C_ret ?_
  try simp only [↓inBlock_ret, ↓then_ret]
  exact retQ rfl (Res.one Tryz.results29 rfl) ⟨rfl, hK.kp⟩

set_option maxRecDepth 4000 in
set_option maxHeartbeats 4000000 in
theorem know_CheckIndex_c (w : World) {A : Nat → Prop} (hA : ∀ b, w.heap.size ≤ b → A b) (x : know_Index) (v_x0 : Value) (h_x0 : Sl A w v_x0 x.ids) (v_x1 : Value) (h_x1 : Sl A w v_x1 x.sizes) (v_x2 : Value) (h_x2 : Sl A w v_x2 x.terms) {r : Int} (hm : know_CheckIndex x = some r) : Ret Tryz.prog 7 #[.agg #[v_x0, v_x1, v_x2]] w fun v w' => v = .int .i64 r ∧ Kp Dw w w' := by
  unfold know_CheckIndex at hm
  refine enter Tryz.func7 rfl Tryz.ntmps7 rfl ?_
  have hA0 := hA
  have hB := Nat.le_refl w.heap.size
  have hK : Tr Dw w.heap.size A w A w := Tr.refl (Dw := Dw) hA
  have hH : Hp w.heap.size A w [] := Hp.nil
  refine C_seq ?_
  refine C_region ?_
  refine V_box rfl rfl ?_
  intro b7 w9 h10
  have hk12 := h10.kp (Dw := Dw)
  have h11 : El (α := know_Index) A w9 b7 0 x := h10.el hA ⟨[v_x0], _, rfl, ⟨_, rfl, h_x0⟩, ⟨[v_x1], _, rfl, ⟨_, rfl, h_x1⟩, ⟨_, rfl, h_x2⟩⟩⟩
  have ht13 := Kp.tr (Dw := Dw) hk12 hA hB
  replace hH := Hp.kp (Dw := Dw) hH hk12
  replace h_x0 := Sl.tr (Dw := Dw) h_x0 ht13
  replace h_x1 := Sl.tr (Dw := Dw) h_x1 ht13
  replace h_x2 := Sl.tr (Dw := Dw) h_x2 ht13
  replace hK := Tr.trans (Dw := Dw) hK ht13
  replace hB := Nat.le_trans hB ht13.ex.size
  replace hA := ht13.new
  refine V_y (Y_assign rfl) rfl rfl rfl ?_
  refine V_to (fun _ _ => rfl) ?_
  refine C_seq ?_
  refine C_seq ?_
  refine C_region ?_
  have h14 := El_know_Index_0 h11
  refine V_y (Y_fieldAddr Tryz.underlying25 rfl Tryz.sizeOf22 (by decide) rfl) rfl rfl rfl ?_
  obtain ⟨v15, h16, h17⟩ := El.list h14
  refine V_y (Y_load h16 Tryz.isAgg22 rfl) rfl rfl rfl ?_
  refine V_y (Y_lenSl h17 rfl Tryz.underlying22 rfl) rfl rfl rfl ?_
  refine V_y (Y_gtr rfl rfl) rfl rfl rfl ?_
  refine V_to (fun _ _ => rfl) ?_
  refine C_cond rfl (fun hc18 => ?_) (fun hc18 => ?_)
  · rw [if_pos hc18] at hm
    refine C_seq ?_
    refine C_region ?_
    refine V_y (Y_assign rfl) rfl rfl rfl ?_
    refine V_to (fun _ _ => rfl) ?_
    obtain rfl := Option.some.inj hm
    refine C_ret ?_
    try simp only [↓inBlock_ret, ↓then_ret]
    exact retQ rfl (Res.one Tryz.results7 rfl) ⟨rfl, hK.kp⟩
  · rw [if_neg (nt hc18)] at hm
    refine C_skip_to (fun _ _ => rfl) ?_
    refine C_seq ?_
    refine C_seq ?_
    refine C_region ?_
    have h19 := El_know_Index_1 h11
    refine V_y (Y_fieldAddr Tryz.underlying25 rfl Tryz.sizeOf22 (by decide) rfl) rfl rfl rfl ?_
    obtain ⟨v20, h21, h22⟩ := El.list h19
    refine V_y (Y_load h21 Tryz.isAgg22 rfl) rfl rfl rfl ?_
    refine V_y (Y_lenSl h22 rfl Tryz.underlying22 rfl) rfl rfl rfl ?_
    have h23 := El_know_Index_0 h11
    refine V_y (Y_fieldAddr Tryz.underlying25 rfl Tryz.sizeOf22 (by decide) rfl) rfl rfl rfl ?_
    obtain ⟨v24, h25, h26⟩ := El.list h23
    refine V_y (Y_load h25 Tryz.isAgg22 rfl) rfl rfl rfl ?_
    refine V_y (Y_lenSl h26 rfl Tryz.underlying22 rfl) rfl rfl rfl ?_
    refine V_y (Y_neq rfl rfl) rfl rfl rfl ?_
    refine V_to (fun _ _ => rfl) ?_
    refine C_cond rfl (fun hc27 => ?_) (fun hc27 => ?_)
    · rw [if_pos hc27] at hm
      refine C_seq ?_
      refine C_region ?_
      refine V_y (Y_assign rfl) rfl rfl rfl ?_
      refine V_to (fun _ _ => rfl) ?_
      obtain rfl := Option.some.inj hm
      refine C_ret ?_
      try simp only [↓inBlock_ret, ↓then_ret]
      exact retQ rfl (Res.one Tryz.results7 rfl) ⟨rfl, hK.kp⟩
    · rw [if_neg (nt hc27)] at hm
      refine C_skip_to (fun _ _ => rfl) ?_
      refine C_seq ?_
      refine C_seq ?_
      refine C_region ?_
      have h28 := El_know_Index_0 h11
      refine V_y (Y_fieldAddr Tryz.underlying25 rfl Tryz.sizeOf22 (by decide) rfl) rfl rfl rfl ?_
      obtain ⟨v29, h30, h31⟩ := El.list h28
      refine V_y (Y_load h30 Tryz.isAgg22 rfl) rfl rfl rfl ?_
      refine V_y (Y_lenSl h31 rfl Tryz.underlying22 rfl) rfl rfl rfl ?_
      refine V_y (Y_move rfl) rfl rfl rfl ?_
      refine V_to (fun _ _ => rfl) ?_
      have hn48 := Sl.le h31
      obtain ⟨o32, ho32, hm⟩ := Option.bind_eq_some_iff.1 hm
      refine C_cutG (ι := Unit) (fun (s33 : Unit) => [(1, .pointer (some ⟨b7, 0, none⟩))]) (fun (s33 : Unit) => fun w' => o32 = .fin s33 ∧ w9 = w') ?_ ?_
      · refine C_block ?_
        refine C_range ho32 (fun k35 _ a w' => ∃ i : Unit, Has ⟨103, [], none⟩ a ([(1, .pointer (some ⟨b7, 0, none⟩)), (21, v29), (22, .int .i64 (x.ids.length : Int)), (23, .int .i64 (k35 : Int))]) ∧ w9 = w') (fun a ha => ⟨(), ha.sub ⟨rfl, rfl, rfl, rfl, trivial⟩, rfl⟩) ?_
        rintro K k35 _ a _ ⟨_, ha77, rfl⟩ hle44 K47 h46
        refine C_of ?_ ha77
        refine C_seq (C_region (V_y (Y_lss rfl rfl) rfl rfl rfl (V_to (fun _ _ => rfl) ?_)))
        refine C_seq ?_
        refine C_cond rfl (fun hc49 => ?_) (fun hc49 => ?_)
        · have hlt45 := lt_of_dec hc49
          obtain ⟨x41, h42, h43⟩ := K47 hlt45
          refine C_skip_to (fun _ _ => rfl) ?_
          refine C_seq ?_
          refine C_block ?_
          refine C_seq ?_
          refine C_region ?_
          refine V_y (Y_move rfl) rfl rfl rfl ?_
          obtain ⟨x50, hx50, h42⟩ := Option.bind_eq_some_iff.1 h42
          refine V_indexAddr h31 hx50 Tryz.underlying22 Tryz.sizeOf3 rfl rfl rfl ?_
          intro b51 o52 h53
          refine V_y (Y_load (El.int h53) Tryz.isAgg3 rfl) rfl rfl rfl ?_
          refine V_y (Y_assign rfl) rfl rfl rfl ?_
          refine V_y (Y_assign rfl) rfl rfl rfl ?_
          refine V_to (fun _ _ => rfl) ?_
          refine C_block ?_
          refine C_seq ?_
          refine C_region ?_
          refine V_y (Y_move rfl) rfl rfl rfl ?_
          refine V_call Tryz.call8 rfl rfl rfl rfl (know_within_c w9 x50 1 3000000) ?_
          rintro _ _ ⟨rfl, rfl⟩
          refine V_y (Y_not rfl) rfl rfl rfl ?_
          refine V_y (Y_assign rfl) rfl rfl rfl ?_
          refine V_to (fun _ _ => rfl) ?_
          refine C_cond rfl (fun hc54 => ?_) (fun hc54 => ?_)
          · rw [if_pos hc54] at h42
            refine C_seq ?_
            refine C_region ?_
            refine V_y (Y_assign rfl) rfl rfl rfl ?_
            refine V_to (fun _ _ => rfl) ?_
            obtain rfl := Option.some.inj h42
            obtain rfl := (h43 : Lp.rt _ = _)
            rw [Lp.andThen_rt] at hm
            obtain rfl := Option.some.inj hm
            refine C_ret ?_
            try simp only [↓inBlock_ret, ↓then_ret]
            exact retQ rfl (Res.one Tryz.results7 rfl) ⟨rfl, hK.kp⟩
          · rw [if_neg (nt hc54)] at h42
            refine C_seq ?_
            refine C_region ?_
            refine V_y (Y_move rfl) rfl rfl rfl ?_
            refine V_y (Y_gtr rfl rfl) rfl rfl rfl ?_
            refine V_y (Y_move rfl) rfl rfl rfl ?_
            obtain ⟨s56, hs56, h42⟩ := Option.bind_eq_some_iff.1 h42
            refine V_cut 9 (fun _ : Unit => [(1, .pointer (some ⟨b7, 0, none⟩)), (3, .int .i64 (k35 : Int)), (21, v29), (22, .int .i64 (x.ids.length : Int)), (23, .int .i64 (k35 : Int)), (44, .bool s56)]) (fun _ w' => w9 = w') ?_ ?_
            · simp only [List.take, List.drop]
              rcases Bool.eq_false_or_eq_true (decide ((0 : Int) < (k35 : Int))) with hc55 | hc55
              · rw [if_pos hc55] at hs56
                refine V_ge rfl rfl rfl hc55 ?_
                refine V_y (Y_move rfl) rfl rfl rfl ?_
                refine V_ge rfl rfl rfl hc55 ?_
                have h57 := El_know_Index_0 h11
                refine V_y (Y_fieldAddr Tryz.underlying25 rfl Tryz.sizeOf22 (by decide) rfl) rfl rfl rfl ?_
                refine V_ge rfl rfl rfl hc55 ?_
                obtain ⟨v58, h59, h60⟩ := El.list h57
                refine V_y (Y_load h59 Tryz.isAgg22 rfl) rfl rfl rfl ?_
                refine V_ge rfl rfl rfl hc55 ?_
                refine V_y (Y_move rfl) rfl rfl rfl ?_
                refine V_ge rfl rfl rfl hc55 ?_
                refine V_y (Y_subI rfl rfl) rfl rfl rfl ?_
                refine V_ge rfl rfl rfl hc55 ?_
                obtain ⟨x61, hx61, hs56⟩ := Option.bind_eq_some_iff.1 hs56
                refine V_indexAddr h60 hx61 Tryz.underlying22 Tryz.sizeOf3 rfl rfl rfl ?_
                intro b62 o63 h64
                refine V_ge rfl rfl rfl hc55 ?_
                refine V_y (Y_load (El.int h64) Tryz.isAgg3 rfl) rfl rfl rfl ?_
                refine V_ge rfl rfl rfl hc55 ?_
                refine V_y (Y_leq rfl rfl) rfl rfl rfl ?_
                refine V_y (Y_pick_te rfl hc55 rfl) rfl rfl rfl ?_
                obtain rfl := Option.some.inj hs56
                exact V_end fun a ha => ⟨(), ha.sub ⟨rfl, rfl, rfl, rfl, rfl, rfl, trivial⟩, rfl⟩
              · rw [if_neg (nt hc55)] at hs56
                refine V_gn rfl rfl rfl hc55 rfl rfl rfl ?_
                refine V_gn rfl rfl rfl hc55 rfl rfl rfl ?_
                refine V_gn rfl rfl rfl hc55 rfl rfl rfl ?_
                refine V_gn rfl rfl rfl hc55 rfl rfl rfl ?_
                refine V_gn rfl rfl rfl hc55 rfl rfl rfl ?_
                refine V_gn rfl rfl rfl hc55 rfl rfl rfl ?_
                refine V_gn rfl rfl rfl hc55 rfl rfl rfl ?_
                refine V_gn rfl rfl rfl hc55 rfl rfl rfl ?_
                refine V_y (Y_pick_fe rfl hc55 rfl) rfl rfl rfl ?_
                obtain rfl := Option.some.inj hs56
                exact V_end fun a ha => ⟨(), ha.sub ⟨rfl, rfl, rfl, rfl, rfl, rfl, trivial⟩, rfl⟩
            simp only [List.take, List.drop]
            rintro _ _ rfl
            refine V_y (Y_assign rfl) rfl rfl rfl ?_
            refine V_to (fun _ _ => rfl) ?_
            refine C_cond rfl (fun hc65 => ?_) (fun hc65 => ?_)
            · rw [if_pos hc65] at h42
              refine C_seq ?_
              refine C_region ?_
              refine V_y (Y_assign rfl) rfl rfl rfl ?_
              refine V_to (fun _ _ => rfl) ?_
              obtain rfl := Option.some.inj h42
              obtain rfl := (h43 : Lp.rt _ = _)
              rw [Lp.andThen_rt] at hm
              obtain rfl := Option.some.inj hm
              refine C_ret ?_
              try simp only [↓inBlock_ret, ↓then_ret]
              exact retQ rfl (Res.one Tryz.results7 rfl) ⟨rfl, hK.kp⟩
            · rw [if_neg (nt hc65)] at h42
              refine C_seq ?_
              refine C_region ?_
              have h66 := El_know_Index_1 h11
              refine V_y (Y_fieldAddr Tryz.underlying25 rfl Tryz.sizeOf22 (by decide) rfl) rfl rfl rfl ?_
              obtain ⟨v67, h68, h69⟩ := El.list h66
              refine V_y (Y_load h68 Tryz.isAgg22 rfl) rfl rfl rfl ?_
              refine V_y (Y_move rfl) rfl rfl rfl ?_
              obtain ⟨x70, hx70, h42⟩ := Option.bind_eq_some_iff.1 h42
              refine V_indexAddr h69 hx70 Tryz.underlying22 Tryz.sizeOf3 rfl rfl rfl ?_
              intro b71 o72 h73
              refine V_y (Y_load (El.int h73) Tryz.isAgg3 rfl) rfl rfl rfl ?_
              refine V_call Tryz.call8 rfl rfl rfl rfl (know_within_c w9 x70 0 20000) ?_
              rintro _ _ ⟨rfl, rfl⟩
              refine V_y (Y_not rfl) rfl rfl rfl ?_
              refine V_y (Y_assign rfl) rfl rfl rfl ?_
              refine V_to (fun _ _ => rfl) ?_
              refine C_cond rfl (fun hc74 => ?_) (fun hc74 => ?_)
              · rw [if_pos hc74] at h42
                refine C_seq ?_
                refine C_region ?_
                refine V_y (Y_assign rfl) rfl rfl rfl ?_
                refine V_to (fun _ _ => rfl) ?_
                obtain rfl := Option.some.inj h42
                obtain rfl := (h43 : Lp.rt _ = _)
                rw [Lp.andThen_rt] at hm
                obtain rfl := Option.some.inj hm
                refine C_ret ?_
                try simp only [↓inBlock_ret, ↓then_ret]
                exact retQ rfl (Res.one Tryz.results7 rfl) ⟨rfl, hK.kp⟩
              · rw [if_neg (nt hc74)] at h42
                refine C_skip_to (fun _ _ => rfl) ?_
                refine C_region ?_
                refine V_y (Y_addI rfl rfl) rfl rfl rfl ?_
                refine V_y (Y_move rfl) rfl rfl rfl ?_
                obtain rfl := Option.some.inj h42
                refine V_end (fun a ha75 => ?_)
                exact ⟨(), hlt45, h43, ⟨(), ha75.sub ⟨rfl, rfl, rfl, (congrArg (fun z => some (Value.int .i64 z)) (w64_succ hlt45 hn48)), trivial⟩, rfl⟩⟩
        · refine C_exit (fun a ha76 => ?_)
          exact ⟨(), ha76.sub ⟨rfl, trivial⟩, ⟨(h46 (eq_of_dec hle44 hc49)).symm, rfl⟩⟩
      rintro s33 _ ⟨rfl, rfl⟩ a ha38
      rw [Lp.andThen_fin] at hm
      refine C_at (n := ⟨103, [], none⟩) (fun _ _ => rfl) ?_ ha38
      refine C_seq ?_
      refine C_seq ?_
      refine C_region ?_
      have h78 := El_know_Index_2 h11
      refine V_y (Y_fieldAddr Tryz.underlying25 rfl Tryz.sizeOf23 (by decide) rfl) rfl rfl rfl ?_
      obtain ⟨v79, h80, h81⟩ := El.list h78
      refine V_y (Y_load h80 Tryz.isAgg23 rfl) rfl rfl rfl ?_
      refine V_y (Y_lenSl h81 rfl Tryz.underlying23 rfl) rfl rfl rfl ?_
      refine V_y (Y_move rfl) rfl rfl rfl ?_
      refine V_to (fun _ _ => rfl) ?_
      have hn102 := Sl.le h81
      obtain ⟨o82, ho82, hm⟩ := Option.bind_eq_some_iff.1 hm
      refine C_cutG (ι := (Unit × (Nat → Prop))) (fun ⟨s83, A89⟩ => []) (fun ⟨s83, A89⟩ => fun w' => o82 = .fin s83 ∧ Hp w.heap.size A89 w' ([]) ∧ Tr Dw w.heap.size A w9 A89 w') ?_ ?_
      · refine C_block ?_
        refine C_range ho82 (fun k85 _ a w' => ∃ i : (Nat → Prop), Has ⟨103, [], none⟩ a ([(1, .pointer (some ⟨b7, 0, none⟩)), (55, v79), (56, .int .i64 (x.terms.length : Int)), (57, .int .i64 (k85 : Int))]) ∧ Hp w.heap.size i w' ([]) ∧ Tr Dw w.heap.size A w9 i w') (fun a ha => ⟨A, ha.sub ⟨rfl, rfl, rfl, rfl, trivial⟩, ⟨hH, Tr.refl (Dw := Dw) hA⟩⟩) ?_
        rintro K k85 _ a w92 ⟨A93, ha182, hH94, hr84⟩ hle98 K101 h100
        refine C_of ?_ ha182
        replace h11 := El.tr (Dw := Dw) h11 hr84
        replace h81 := Sl.tr (Dw := Dw) h81 hr84
        replace hK := Tr.trans (Dw := Dw) hK hr84
        replace hB := Nat.le_trans hB hr84.ex.size
        replace hA := hr84.new
        replace hH : Hp w.heap.size A93 w92 ([]) := hH94
        refine C_seq (C_region (V_y (Y_lss rfl rfl) rfl rfl rfl (V_to (fun _ _ => rfl) ?_)))
        refine C_seq ?_
        refine C_cond rfl (fun hc103 => ?_) (fun hc103 => ?_)
        · have hlt99 := lt_of_dec hc103
          obtain ⟨x95, h96, h97⟩ := K101 hlt99
          refine C_skip_to (fun _ _ => rfl) ?_
          refine C_seq ?_
          refine C_block ?_
          refine C_seq ?_
          refine C_region ?_
          refine V_y (Y_move rfl) rfl rfl rfl ?_
          obtain ⟨x104, hx104, h96⟩ := Option.bind_eq_some_iff.1 h96
          refine V_indexAddr h81 hx104 Tryz.underlying23 Tryz.sizeOf44 rfl rfl rfl ?_
          intro b105 o106 h107
          obtain ⟨v108, h110, h109⟩ := El_know_Term h107
          refine V_y (Y_loadA h110 Tryz.isAgg44 Tryz.sizeOf44 rfl) rfl rfl rfl ?_
          refine V_alloc Tryz.zeroValue44 rfl ?_
          intro b111 w112 h113
          refine V_y (Y_assign rfl) rfl rfl rfl ?_
          have h118 : (v108).oneCell' = true := by obtain ⟨_, _, e, _⟩ := Sl.form h109; rw [e]; rfl
          refine V_storeNew h113 Tryz.sizeOf44 rfl rfl rfl rfl (by exact (List.forall_mem_cons.2 ⟨rfl, (List.forall_mem_cons.2 ⟨h118, (fun _ h => nomatch h)⟩)⟩)) ?_
          intro w114 h115
          have hk120 := h115.kp (Dw := Dw)
          have h119 : El (α := know_Term) A93 w114 b111 0 x104 := h115.el hA ⟨[.string x104.word], _, rfl, rfl, ⟨_, rfl, h109⟩⟩
          have ht121 := Kp.tr (Dw := Dw) hk120 hA hB
          replace hH := Hp.kp (Dw := Dw) hH hk120
          replace h11 := El.tr (Dw := Dw) h11 ht121
          replace h81 := Sl.tr (Dw := Dw) h81 ht121
          replace h107 := El.tr (Dw := Dw) h107 ht121
          replace h109 := Sl.tr (Dw := Dw) h109 ht121
          replace hK := Tr.trans (Dw := Dw) hK ht121
          replace hr84 := Tr.trans (Dw := Dw) hr84 ht121
          replace hB := Nat.le_trans hB ht121.ex.size
          replace hA := ht121.new
          refine V_to (fun _ _ => rfl) ?_
          refine C_seq ?_
          refine C_seq ?_
          refine C_region ?_
          have h122 := El_know_Term_0 h119
          refine V_y (Y_fieldAddr Tryz.underlying44 rfl Tryz.sizeOf9 (by decide) rfl) rfl rfl rfl ?_
          refine V_y (Y_load (El.str h122) Tryz.isAgg9 rfl) rfl rfl rfl ?_
          obtain ⟨x123, hx123, h96⟩ := Option.bind_eq_some_iff.1 h96
          refine V_call Tryz.call10 rfl rfl rfl rfl (know_Words_c (Dw := Dw) w114 hA x104.word hx123) ?_
          rintro v124 w126 ⟨_, rfl, h125, hk127⟩
          obtain ⟨A128, ht129, hH130⟩ := Hp.addOwnd (Dw := Dw) hH hB hA hk127 h125
          replace h11 := El.tr (Dw := Dw) h11 ht129
          replace h81 := Sl.tr (Dw := Dw) h81 ht129
          replace h119 := El.tr (Dw := Dw) h119 ht129
          replace h122 := El.tr (Dw := Dw) h122 ht129
          replace hK := Tr.trans (Dw := Dw) hK ht129
          replace hr84 := Tr.trans (Dw := Dw) hr84 ht129
          replace hB := Nat.le_trans hB ht129.ex.size
          replace hA := ht129.new
          replace hH : Hp w.heap.size A128 w126 (obS (α := ByteArray) 9 v124 x123 :: []) := hH130
          refine V_y (Y_assign rfl) rfl rfl rfl ?_
          refine V_to (fun _ _ => rfl) ?_
          refine C_seq ?_
          refine C_region_q (Dw := Dw) Tryz_mixed (by kernel_rfl) ?_
          refine VQ_y (fun w' hw' => Y_move rfl) rfl rfl rfl ?_
          refine VQ_y (fun w' hw' => Y_lenSl (Hp.any (α := ByteArray) (e := 9) (v := v124) (l := x123) hH (i := 0) rfl) rfl Tryz.underlying37 rfl) rfl rfl rfl ?_
          refine VQ_y (fun w' hw' => Y_neq rfl rfl) rfl rfl rfl ?_
          refine VQ_y (fun w' hw' => Y_move rfl) rfl rfl rfl ?_
          obtain ⟨s132, hs132, h96⟩ := Option.bind_eq_some_iff.1 h96
          refine VQ_cut 7 (fun _ : Unit => [(1, .pointer (some ⟨b7, 0, none⟩)), (5, .int .i64 (k85 : Int)), (6, .pointer (some ⟨b111, 0, none⟩)), (55, v79), (56, .int .i64 (x.terms.length : Int)), (57, .int .i64 (k85 : Int)), (75, .bool s132)]) (fun _ => True) ?_ ?_
          · simp only [List.take, List.drop]
            rcases Bool.eq_false_or_eq_true ((x123.length : Int) != 1) with hc131 | hc131
            · rw [if_pos hc131] at hs132
              refine VQ_gn rfl rfl rfl hc131 rfl rfl rfl ?_
              refine VQ_gn rfl rfl rfl hc131 rfl rfl rfl ?_
              refine VQ_gn rfl rfl rfl hc131 rfl rfl rfl ?_
              refine VQ_gn rfl rfl rfl hc131 rfl rfl rfl ?_
              refine VQ_gn rfl rfl rfl hc131 rfl rfl rfl ?_
              refine VQ_gn rfl rfl rfl hc131 rfl rfl rfl ?_
              refine VQ_y (fun _ _ => Y_pick_te rfl hc131 rfl) rfl rfl rfl ?_
              obtain rfl := Option.some.inj hs132
              exact VQ_end fun a ha => ⟨(), ha.sub ⟨rfl, rfl, rfl, rfl, rfl, rfl, rfl, trivial⟩, trivial⟩
            · rw [if_neg (nt hc131)] at hs132
              refine VQ_ge rfl rfl rfl hc131 ?_
              refine VQ_y (fun w' hw' => Y_move rfl) rfl rfl rfl ?_
              refine VQ_ge rfl rfl rfl hc131 ?_
              obtain ⟨x133, hx133, hs132⟩ := Option.bind_eq_some_iff.1 hs132
              refine VQ_indexAddrH (α := ByteArray) (e := 9) (v := v124) (l := x123) hH (i := 0) rfl hx133 Tryz.underlying37 Tryz.sizeOf9 rfl rfl rfl ?_
              intro b134 o135 h136 hl137
              refine VQ_ge rfl rfl rfl hc131 ?_
              refine VQ_y (fun w' hw' => Y_load (El.str (El.kp (Dw := Dw) h136 hw')) Tryz.isAgg9 rfl) rfl rfl rfl ?_
              refine VQ_ge rfl rfl rfl hc131 ?_
              have h138 := El_know_Term_0 h119
              refine VQ_y (fun w' hw' => Y_fieldAddr Tryz.underlying44 rfl Tryz.sizeOf9 (by decide) rfl) rfl rfl rfl ?_
              refine VQ_ge rfl rfl rfl hc131 ?_
              refine VQ_y (fun w' hw' => Y_load (El.str (El.kp (Dw := Dw) h138 hw')) Tryz.isAgg9 rfl) rfl rfl rfl ?_
              refine VQ_ge rfl rfl rfl hc131 ?_
              refine VQ_y (fun w' hw' => Y_sneq rfl rfl) rfl rfl rfl ?_
              refine VQ_y (fun _ _ => Y_pick_fe rfl hc131 rfl) rfl rfl rfl ?_
              obtain rfl := Option.some.inj hs132
              exact VQ_end fun a ha => ⟨(), ha.sub ⟨rfl, rfl, rfl, rfl, rfl, rfl, rfl, trivial⟩, trivial⟩
          simp only [List.take, List.drop]
          rintro _ _
          refine VQ_y (fun w' hw' => Y_move rfl) rfl rfl rfl ?_
          refine VQ_cut 5 (fun _ : Unit => [(1, .pointer (some ⟨b7, 0, none⟩)), (5, .int .i64 (k85 : Int)), (6, .pointer (some ⟨b111, 0, none⟩)), (55, v79), (56, .int .i64 (x.terms.length : Int)), (57, .int .i64 (k85 : Int)), (81, .bool (s132 || ((x104.list_.length : Int) == 0)))]) (fun _ => True) ?_ ?_
          · simp only [List.take, List.drop]
            rcases Bool.eq_false_or_eq_true (s132) with hc139 | hc139
            · refine VQ_gn rfl rfl rfl hc139 rfl rfl rfl ?_
              refine VQ_gn rfl rfl rfl hc139 rfl rfl rfl ?_
              refine VQ_gn rfl rfl rfl hc139 rfl rfl rfl ?_
              refine VQ_gn rfl rfl rfl hc139 rfl rfl rfl ?_
              refine VQ_y (fun _ _ => Y_pick_te rfl hc139 rfl) rfl rfl rfl ?_
              exact VQ_end fun a ha => ⟨(), ha.sub ⟨rfl, rfl, rfl, rfl, rfl, rfl, (by rw [hc139]; rfl), trivial⟩, trivial⟩
            · refine VQ_ge rfl rfl rfl hc139 ?_
              have h141 := El_know_Term_1 h119
              refine VQ_y (fun w' hw' => Y_fieldAddr Tryz.underlying44 rfl Tryz.sizeOf42 (by decide) rfl) rfl rfl rfl ?_
              refine VQ_ge rfl rfl rfl hc139 ?_
              obtain ⟨v142, h143, h144⟩ := El.list h141
              refine VQ_y (fun w' hw' => Y_load ((World.cell?_of_block (hw'.block _ (World.block_lt_of_cell? _ _ h143))).trans h143) Tryz.isAgg42 rfl) rfl rfl rfl ?_
              refine VQ_ge rfl rfl rfl hc139 ?_
              refine VQ_y (fun w' hw' => Y_lenSl h144 rfl Tryz.underlying42 rfl) rfl rfl rfl ?_
              refine VQ_ge rfl rfl rfl hc139 ?_
              refine VQ_y (fun w' hw' => Y_eql rfl rfl) rfl rfl rfl ?_
              refine VQ_y (fun _ _ => Y_pick_fe rfl hc139 rfl) rfl rfl rfl ?_
              exact VQ_end fun a ha => ⟨(), ha.sub ⟨rfl, rfl, rfl, rfl, rfl, rfl, (by rw [hc139]; rfl), trivial⟩, trivial⟩
          simp only [List.take, List.drop]
          rintro _ _
          refine VQ_to (fun _ _ => rfl) (fun w145 hk146 => ?_)
          have ht147 := Kp.tr (Dw := Dw) hk146 hA hB
          replace hH := Hp.kp (Dw := Dw) hH hk146
          replace h11 := El.tr (Dw := Dw) h11 ht147
          replace h81 := Sl.tr (Dw := Dw) h81 ht147
          replace h119 := El.tr (Dw := Dw) h119 ht147
          replace hK := Tr.trans (Dw := Dw) hK ht147
          replace hr84 := Tr.trans (Dw := Dw) hr84 ht147
          replace hB := Nat.le_trans hB ht147.ex.size
          replace hA := ht147.new
          refine C_cond rfl (fun hc148 => ?_) (fun hc148 => ?_)
          · rw [if_pos hc148] at h96
            refine C_seq ?_
            refine C_region ?_
            refine V_y (Y_assign rfl) rfl rfl rfl ?_
            refine V_to (fun _ _ => rfl) ?_
            obtain rfl := Option.some.inj h96
            obtain rfl := (h97 : Lp.rt _ = _)
            rw [Lp.andThen_rt] at hm
            obtain rfl := Option.some.inj hm
            refine C_ret ?_
            try simp only [↓inBlock_ret, ↓then_ret]
            exact retQ rfl (Res.one Tryz.results7 rfl) ⟨rfl, hK.kp⟩
          · rw [if_neg (nt hc148)] at h96
            refine C_skip_to (fun _ _ => rfl) ?_
            refine C_seq ?_
            refine C_seq ?_
            refine C_region_q (Dw := Dw) Tryz_mixed (by kernel_rfl) ?_
            refine VQ_y (fun w' hw' => Y_move rfl) rfl rfl rfl ?_
            refine VQ_y (fun w' hw' => Y_gtr rfl rfl) rfl rfl rfl ?_
            refine VQ_y (fun w' hw' => Y_move rfl) rfl rfl rfl ?_
            obtain ⟨s150, hs150, h96⟩ := Option.bind_eq_some_iff.1 h96
            refine VQ_cut 11 (fun _ : Unit => [(1, .pointer (some ⟨b7, 0, none⟩)), (6, .pointer (some ⟨b111, 0, none⟩)), (55, v79), (56, .int .i64 (x.terms.length : Int)), (57, .int .i64 (k85 : Int)), (95, .bool s150)]) (fun _ => True) ?_ ?_
            · simp only [List.take, List.drop]
              rcases Bool.eq_false_or_eq_true (decide ((0 : Int) < (k85 : Int))) with hc149 | hc149
              · rw [if_pos hc149] at hs150
                refine VQ_ge rfl rfl rfl hc149 ?_
                have h151 := El_know_Term_0 h119
                refine VQ_y (fun w' hw' => Y_fieldAddr Tryz.underlying44 rfl Tryz.sizeOf9 (by decide) rfl) rfl rfl rfl ?_
                refine VQ_ge rfl rfl rfl hc149 ?_
                refine VQ_y (fun w' hw' => Y_load (El.str (El.kp (Dw := Dw) h151 hw')) Tryz.isAgg9 rfl) rfl rfl rfl ?_
                refine VQ_ge rfl rfl rfl hc149 ?_
                have h152 := El_know_Index_2 h11
                refine VQ_y (fun w' hw' => Y_fieldAddr Tryz.underlying25 rfl Tryz.sizeOf23 (by decide) rfl) rfl rfl rfl ?_
                refine VQ_ge rfl rfl rfl hc149 ?_
                obtain ⟨v153, h154, h155⟩ := El.list h152
                refine VQ_y (fun w' hw' => Y_load ((World.cell?_of_block (hw'.block _ (World.block_lt_of_cell? _ _ h154))).trans h154) Tryz.isAgg23 rfl) rfl rfl rfl ?_
                refine VQ_ge rfl rfl rfl hc149 ?_
                refine VQ_y (fun w' hw' => Y_move rfl) rfl rfl rfl ?_
                refine VQ_ge rfl rfl rfl hc149 ?_
                refine VQ_y (fun w' hw' => Y_subI rfl rfl) rfl rfl rfl ?_
                refine VQ_ge rfl rfl rfl hc149 ?_
                obtain ⟨x156, hx156, hs150⟩ := Option.bind_eq_some_iff.1 hs150
                refine VQ_indexAddr h155 hx156 Tryz.underlying23 Tryz.sizeOf44 rfl rfl rfl ?_
                intro b157 o158 h159
                refine VQ_ge rfl rfl rfl hc149 ?_
                have h160 := El_know_Term_0 h159
                refine VQ_y (fun w' hw' => Y_fieldAddr Tryz.underlying44 rfl Tryz.sizeOf9 (by decide) rfl) rfl rfl rfl ?_
                refine VQ_ge rfl rfl rfl hc149 ?_
                refine VQ_y (fun w' hw' => Y_load (El.str (El.kp (Dw := Dw) h160 hw')) Tryz.isAgg9 rfl) rfl rfl rfl ?_
                refine VQ_ge rfl rfl rfl hc149 ?_
                refine VQ_y (fun w' hw' => Y_sleq rfl rfl) rfl rfl rfl ?_
                refine VQ_y (fun _ _ => Y_pick_te rfl hc149 rfl) rfl rfl rfl ?_
                obtain rfl := Option.some.inj hs150
                exact VQ_end fun a ha => ⟨(), ha.sub ⟨rfl, rfl, rfl, rfl, rfl, rfl, trivial⟩, trivial⟩
              · rw [if_neg (nt hc149)] at hs150
                refine VQ_gn rfl rfl rfl hc149 rfl rfl rfl ?_
                refine VQ_gn rfl rfl rfl hc149 rfl rfl rfl ?_
                refine VQ_gn rfl rfl rfl hc149 rfl rfl rfl ?_
                refine VQ_gn rfl rfl rfl hc149 rfl rfl rfl ?_
                refine VQ_gn rfl rfl rfl hc149 rfl rfl rfl ?_
                refine VQ_gn rfl rfl rfl hc149 rfl rfl rfl ?_
                refine VQ_gn rfl rfl rfl hc149 rfl rfl rfl ?_
                refine VQ_gn rfl rfl rfl hc149 rfl rfl rfl ?_
                refine VQ_gn rfl rfl rfl hc149 rfl rfl rfl ?_
                refine VQ_gn rfl rfl rfl hc149 rfl rfl rfl ?_
                refine VQ_y (fun _ _ => Y_pick_fe rfl hc149 rfl) rfl rfl rfl ?_
                obtain rfl := Option.some.inj hs150
                exact VQ_end fun a ha => ⟨(), ha.sub ⟨rfl, rfl, rfl, rfl, rfl, rfl, trivial⟩, trivial⟩
            simp only [List.take, List.drop]
            rintro _ _
            refine VQ_to (fun _ _ => rfl) (fun w161 hk162 => ?_)
            have ht163 := Kp.tr (Dw := Dw) hk162 hA hB
            replace hH := Hp.kp (Dw := Dw) hH hk162
            replace h11 := El.tr (Dw := Dw) h11 ht163
            replace h81 := Sl.tr (Dw := Dw) h81 ht163
            replace h119 := El.tr (Dw := Dw) h119 ht163
            replace hK := Tr.trans (Dw := Dw) hK ht163
            replace hr84 := Tr.trans (Dw := Dw) hr84 ht163
            replace hB := Nat.le_trans hB ht163.ex.size
            replace hA := ht163.new
            refine C_cond rfl (fun hc164 => ?_) (fun hc164 => ?_)
            · rw [if_pos hc164] at h96
              refine C_seq ?_
              refine C_region ?_
              refine V_y (Y_assign rfl) rfl rfl rfl ?_
              refine V_to (fun _ _ => rfl) ?_
              obtain rfl := Option.some.inj h96
              obtain rfl := (h97 : Lp.rt _ = _)
              rw [Lp.andThen_rt] at hm
              obtain rfl := Option.some.inj hm
              refine C_ret ?_
              try simp only [↓inBlock_ret, ↓then_ret]
              exact retQ rfl (Res.one Tryz.results7 rfl) ⟨rfl, hK.kp⟩
            · rw [if_neg (nt hc164)] at h96
              refine C_skip_to (fun _ _ => rfl) ?_
              refine C_seq ?_
              refine C_region ?_
              obtain ⟨v165, v167, v169, h171, h166, h168, h170⟩ := El_know_Index h11
              refine V_y (Y_loadA h171 Tryz.isAgg25 Tryz.sizeOf25 rfl) rfl rfl rfl ?_
              obtain ⟨v172, h174, h173⟩ := El_know_Term h119
              refine V_y (Y_loadA h174 Tryz.isAgg44 Tryz.sizeOf44 rfl) rfl rfl rfl ?_
              obtain ⟨x175, hx175, h96⟩ := Option.bind_eq_some_iff.1 h96
              refine V_call Tryz.call29 rfl rfl rfl rfl (know_Index_checkTerm_c (Dw := Dw) w161 hA x v165 h166 v167 h168 v169 h170 x104 v172 h173 hx175) ?_
              rintro _ w176 ⟨rfl, hk177⟩
              have ht178 := Kp.tr (Dw := Dw) hk177 hA hB
              replace hH := Hp.kp (Dw := Dw) hH hk177
              replace h11 := El.tr (Dw := Dw) h11 ht178
              replace h81 := Sl.tr (Dw := Dw) h81 ht178
              replace h119 := El.tr (Dw := Dw) h119 ht178
              replace h166 := Sl.tr (Dw := Dw) h166 ht178
              replace h168 := Sl.tr (Dw := Dw) h168 ht178
              replace h170 := Sl.tr (Dw := Dw) h170 ht178
              replace h173 := Sl.tr (Dw := Dw) h173 ht178
              replace hK := Tr.trans (Dw := Dw) hK ht178
              replace hr84 := Tr.trans (Dw := Dw) hr84 ht178
              replace hB := Nat.le_trans hB ht178.ex.size
              replace hA := ht178.new
              refine V_y (Y_assign rfl) rfl rfl rfl ?_
              refine V_to (fun _ _ => rfl) ?_
              refine C_seq ?_
              refine C_region ?_
              refine V_y (Y_move rfl) rfl rfl rfl ?_
              refine V_y (Y_neq rfl rfl) rfl rfl rfl ?_
              refine V_to (fun _ _ => rfl) ?_
              refine C_cond rfl (fun hc179 => ?_) (fun hc179 => ?_)
              · rw [if_pos hc179] at h96
                refine C_seq ?_
                refine C_region ?_
                refine V_y (Y_move rfl) rfl rfl rfl ?_
                refine V_y (Y_assign rfl) rfl rfl rfl ?_
                refine V_to (fun _ _ => rfl) ?_
                obtain rfl := Option.some.inj h96
                obtain rfl := (h97 : Lp.rt _ = _)
                rw [Lp.andThen_rt] at hm
                obtain rfl := Option.some.inj hm
                refine C_ret ?_
                try simp only [↓inBlock_ret, ↓then_ret]
                exact retQ rfl (Res.one Tryz.results7 rfl) ⟨rfl, hK.kp⟩
              · rw [if_neg (nt hc179)] at h96
                refine C_skip_to (fun _ _ => rfl) ?_
                refine C_region ?_
                refine V_y (Y_addI rfl rfl) rfl rfl rfl ?_
                refine V_y (Y_move rfl) rfl rfl rfl ?_
                obtain rfl := Option.some.inj h96
                refine V_end (fun a ha180 => ?_)
                replace hH : Hp w.heap.size A128 w176 ([]) := Hp.drop hH (i := 0) rfl
                exact ⟨(), hlt99, h97, ⟨A128, ha180.sub ⟨rfl, rfl, rfl, (congrArg (fun z => some (Value.int .i64 z)) (w64_succ hlt99 hn102)), trivial⟩, ⟨hH, hr84⟩⟩⟩
        · refine C_exit (fun a ha181 => ?_)
          exact ⟨((), A93), ha181.sub trivial, ⟨(h100 (eq_of_dec hle98 hc103)).symm, hH, hr84⟩⟩
      rintro ⟨s83, A89⟩ w86 ⟨rfl, hH90, hk87⟩ a ha88
      rw [Lp.andThen_fin] at hm
      replace hK := Tr.trans (Dw := Dw) hK hk87
      replace hB := Nat.le_trans hB hk87.ex.size
      replace hA := hk87.new
      replace hH : Hp w.heap.size A89 w86 ([]) := hH90
      refine C_at (n := ⟨103, [], none⟩) (fun _ _ => rfl) ?_ ha88
      refine C_seq ?_
      refine C_region ?_
      refine V_y (Y_assign rfl) rfl rfl rfl ?_
      refine V_to (fun _ _ => rfl) ?_
      obtain rfl := Option.some.inj hm
      refine C_ret ?_
      try simp only [↓inBlock_ret, ↓then_ret]
      exact retQ rfl (Res.one Tryz.results7 rfl) ⟨rfl, hK.kp⟩

set_option maxRecDepth 4000 in
set_option maxHeartbeats 4000000 in
theorem internal_stringslite_HasPrefix_c (w : World) (s : ByteArray) (prefix_ : ByteArray) {r : Bool} (hm : internal_stringslite_HasPrefix s prefix_ = some r) : Ret Tryz.prog 55 #[.string s, .string prefix_] w fun v w' => v = .bool r ∧ w = w' := by
  unfold internal_stringslite_HasPrefix at hm
  refine enter Tryz.func55 rfl Tryz.ntmps55 rfl ?_
  refine C_seq ?_
  refine C_region ?_
  refine V_y (Y_assign rfl) rfl rfl rfl ?_
  refine V_to (fun _ _ => rfl) ?_
  refine C_seq ?_
  refine C_region ?_
  refine V_y (Y_move rfl) rfl rfl rfl ?_
  refine V_y (Y_lenStr rfl Tryz.underlying9 rfl) rfl rfl rfl ?_
  refine V_y (Y_move rfl) rfl rfl rfl ?_
  refine V_y (Y_lenStr rfl Tryz.underlying9 rfl) rfl rfl rfl ?_
  refine V_y (Y_geq rfl rfl) rfl rfl rfl ?_
  refine V_y (Y_move rfl) rfl rfl rfl ?_
  obtain ⟨s2, hs2, hm⟩ := Option.bind_eq_some_iff.1 hm
  refine V_cut 7 (fun _ : Unit => [(17, .bool s2)]) (fun _ w' => w = w') ?_ ?_
  · simp only [List.take, List.drop]
    rcases Bool.eq_false_or_eq_true (decide ((prefix_.size : Int) ≤ (s.size : Int))) with hc1 | hc1
    · rw [if_pos hc1] at hs2
      refine V_ge rfl rfl rfl hc1 ?_
      refine V_y (Y_move rfl) rfl rfl rfl ?_
      refine V_ge rfl rfl rfl hc1 ?_
      refine V_y (Y_move rfl) rfl rfl rfl ?_
      refine V_ge rfl rfl rfl hc1 ?_
      refine V_y (Y_lenStr rfl Tryz.underlying9 rfl) rfl rfl rfl ?_
      refine V_ge rfl rfl rfl hc1 ?_
      obtain ⟨x3, hx3, hs2⟩ := Option.bind_eq_some_iff.1 hs2
      refine V_y (Y_sliceSH hx3 Tryz.underlying9 rfl rfl) rfl rfl rfl ?_
      refine V_ge rfl rfl rfl hc1 ?_
      refine V_y (Y_move rfl) rfl rfl rfl ?_
      refine V_ge rfl rfl rfl hc1 ?_
      refine V_y (Y_seql rfl rfl) rfl rfl rfl ?_
      refine V_y (Y_pick_te rfl hc1 rfl) rfl rfl rfl ?_
      obtain rfl := Option.some.inj hs2
      exact V_end fun a ha => ⟨(), ha.sub ⟨rfl, trivial⟩, rfl⟩
    · rw [if_neg (nt hc1)] at hs2
      refine V_gn rfl rfl rfl hc1 rfl rfl rfl ?_
      refine V_gn rfl rfl rfl hc1 rfl rfl rfl ?_
      refine V_gn rfl rfl rfl hc1 rfl rfl rfl ?_
      refine V_gn rfl rfl rfl hc1 rfl rfl rfl ?_
      refine V_gn rfl rfl rfl hc1 rfl rfl rfl ?_
      refine V_gn rfl rfl rfl hc1 rfl rfl rfl ?_
      refine V_y (Y_pick_fe rfl hc1 rfl) rfl rfl rfl ?_
      obtain rfl := Option.some.inj hs2
      exact V_end fun a ha => ⟨(), ha.sub ⟨rfl, trivial⟩, rfl⟩
  simp only [List.take, List.drop]
  rintro _ _ rfl
  refine V_y (Y_assign rfl) rfl rfl rfl ?_
  refine V_to (fun _ _ => rfl) ?_
  obtain rfl := Option.some.inj hm
  refine C_ret ?_
  try simp only [↓inBlock_ret, ↓then_ret]
  exact retQ rfl (Res.one Tryz.results55 rfl) ⟨rfl, rfl⟩

set_option maxRecDepth 4000 in
set_option maxHeartbeats 4000000 in
theorem strings_HasPrefix_c (w : World) (s : ByteArray) (prefix_ : ByteArray) {r : Bool} (hm : strings_HasPrefix s prefix_ = some r) : Ret Tryz.prog 30 #[.string s, .string prefix_] w fun v w' => v = .bool r ∧ w = w' := by
  unfold strings_HasPrefix at hm
  refine enter Tryz.func30 rfl Tryz.ntmps30 rfl ?_
  refine C_seq ?_
  refine C_region ?_
  refine V_y (Y_assign rfl) rfl rfl rfl ?_
  refine V_to (fun _ _ => rfl) ?_
  refine C_seq ?_
  refine C_region ?_
  refine V_y (Y_move rfl) rfl rfl rfl ?_
  refine V_y (Y_move rfl) rfl rfl rfl ?_
  obtain ⟨x1, hx1, hm⟩ := Option.bind_eq_some_iff.1 hm
  refine V_call Tryz.call55 rfl rfl rfl rfl (internal_stringslite_HasPrefix_c w s prefix_ hx1) ?_
  rintro _ _ ⟨rfl, rfl⟩
  refine V_y (Y_assign rfl) rfl rfl rfl ?_
  refine V_to (fun _ _ => rfl) ?_
  obtain rfl := Option.some.inj hm
  refine C_ret ?_
  try simp only [↓inBlock_ret, ↓then_ret]
  exact retQ rfl (Res.one Tryz.results30 rfl) ⟨rfl, rfl⟩

set_option maxRecDepth 4000 in
set_option maxHeartbeats 4000000 in
theorem internal_stringslite_HasSuffix_c (w : World) (s : ByteArray) (suffix : ByteArray) {r : Bool} (hm : internal_stringslite_HasSuffix s suffix = some r) : Ret Tryz.prog 78 #[.string s, .string suffix] w fun v w' => v = .bool r ∧ w = w' := by
  unfold internal_stringslite_HasSuffix at hm
  refine enter Tryz.func78 rfl Tryz.ntmps78 rfl ?_
  refine C_seq ?_
  refine C_region ?_
  refine V_y (Y_assign rfl) rfl rfl rfl ?_
  refine V_to (fun _ _ => rfl) ?_
  refine C_seq ?_
  refine C_region ?_
  refine V_y (Y_move rfl) rfl rfl rfl ?_
  refine V_y (Y_lenStr rfl Tryz.underlying9 rfl) rfl rfl rfl ?_
  refine V_y (Y_move rfl) rfl rfl rfl ?_
  refine V_y (Y_lenStr rfl Tryz.underlying9 rfl) rfl rfl rfl ?_
  refine V_y (Y_geq rfl rfl) rfl rfl rfl ?_
  refine V_y (Y_move rfl) rfl rfl rfl ?_
  obtain ⟨s2, hs2, hm⟩ := Option.bind_eq_some_iff.1 hm
  refine V_cut 10 (fun _ : Unit => [(20, .bool s2)]) (fun _ w' => w = w') ?_ ?_
  · simp only [List.take, List.drop]
    rcases Bool.eq_false_or_eq_true (decide ((suffix.size : Int) ≤ (s.size : Int))) with hc1 | hc1
    · rw [if_pos hc1] at hs2
      refine V_ge rfl rfl rfl hc1 ?_
      refine V_y (Y_move rfl) rfl rfl rfl ?_
      refine V_ge rfl rfl rfl hc1 ?_
      refine V_y (Y_move rfl) rfl rfl rfl ?_
      refine V_ge rfl rfl rfl hc1 ?_
      refine V_y (Y_lenStr rfl Tryz.underlying9 rfl) rfl rfl rfl ?_
      refine V_ge rfl rfl rfl hc1 ?_
      refine V_y (Y_move rfl) rfl rfl rfl ?_
      refine V_ge rfl rfl rfl hc1 ?_
      refine V_y (Y_lenStr rfl Tryz.underlying9 rfl) rfl rfl rfl ?_
      refine V_ge rfl rfl rfl hc1 ?_
      refine V_y (Y_subI rfl rfl) rfl rfl rfl ?_
      refine V_ge rfl rfl rfl hc1 ?_
      obtain ⟨x3, hx3, hs2⟩ := Option.bind_eq_some_iff.1 hs2
      refine V_y (Y_sliceSL hx3 Tryz.underlying9 rfl rfl) rfl rfl rfl ?_
      refine V_ge rfl rfl rfl hc1 ?_
      refine V_y (Y_move rfl) rfl rfl rfl ?_
      refine V_ge rfl rfl rfl hc1 ?_
      refine V_y (Y_seql rfl rfl) rfl rfl rfl ?_
      refine V_y (Y_pick_te rfl hc1 rfl) rfl rfl rfl ?_
      obtain rfl := Option.some.inj hs2
      exact V_end fun a ha => ⟨(), ha.sub ⟨rfl, trivial⟩, rfl⟩
    · rw [if_neg (nt hc1)] at hs2
      refine V_gn rfl rfl rfl hc1 rfl rfl rfl ?_
      refine V_gn rfl rfl rfl hc1 rfl rfl rfl ?_
      refine V_gn rfl rfl rfl hc1 rfl rfl rfl ?_
      refine V_gn rfl rfl rfl hc1 rfl rfl rfl ?_
      refine V_gn rfl rfl rfl hc1 rfl rfl rfl ?_
      refine V_gn rfl rfl rfl hc1 rfl rfl rfl ?_
      refine V_gn rfl rfl rfl hc1 rfl rfl rfl ?_
      refine V_gn rfl rfl rfl hc1 rfl rfl rfl ?_
      refine V_gn rfl rfl rfl hc1 rfl rfl rfl ?_
      refine V_y (Y_pick_fe rfl hc1 rfl) rfl rfl rfl ?_
      obtain rfl := Option.some.inj hs2
      exact V_end fun a ha => ⟨(), ha.sub ⟨rfl, trivial⟩, rfl⟩
  simp only [List.take, List.drop]
  rintro _ _ rfl
  refine V_y (Y_assign rfl) rfl rfl rfl ?_
  refine V_to (fun _ _ => rfl) ?_
  obtain rfl := Option.some.inj hm
  refine C_ret ?_
  try simp only [↓inBlock_ret, ↓then_ret]
  exact retQ rfl (Res.one Tryz.results78 rfl) ⟨rfl, rfl⟩

set_option maxRecDepth 4000 in
set_option maxHeartbeats 4000000 in
theorem strings_HasSuffix_c (w : World) (s : ByteArray) (suffix : ByteArray) {r : Bool} (hm : strings_HasSuffix s suffix = some r) : Ret Tryz.prog 49 #[.string s, .string suffix] w fun v w' => v = .bool r ∧ w = w' := by
  unfold strings_HasSuffix at hm
  refine enter Tryz.func49 rfl Tryz.ntmps49 rfl ?_
  refine C_seq ?_
  refine C_region ?_
  refine V_y (Y_assign rfl) rfl rfl rfl ?_
  refine V_to (fun _ _ => rfl) ?_
  refine C_seq ?_
  refine C_region ?_
  refine V_y (Y_move rfl) rfl rfl rfl ?_
  refine V_y (Y_move rfl) rfl rfl rfl ?_
  obtain ⟨x1, hx1, hm⟩ := Option.bind_eq_some_iff.1 hm
  refine V_call Tryz.call78 rfl rfl rfl rfl (internal_stringslite_HasSuffix_c w s suffix hx1) ?_
  rintro _ _ ⟨rfl, rfl⟩
  refine V_y (Y_assign rfl) rfl rfl rfl ?_
  refine V_to (fun _ _ => rfl) ?_
  obtain rfl := Option.some.inj hm
  refine C_ret ?_
  try simp only [↓inBlock_ret, ↓then_ret]
  exact retQ rfl (Res.one Tryz.results49 rfl) ⟨rfl, rfl⟩

set_option maxRecDepth 4000 in
set_option maxHeartbeats 4000000 in
theorem know_Stem_c (w : World) (word : ByteArray) {r : ByteArray} (hm : know_Stem word = some r) : Ret Tryz.prog 31 #[.string word] w fun v w' => v = .string r ∧ w = w' := by
  unfold know_Stem at hm
  refine enter Tryz.func31 rfl Tryz.ntmps31 rfl ?_
  refine C_seq ?_
  refine C_region ?_
  refine V_y (Y_assign rfl) rfl rfl rfl ?_
  refine V_to (fun _ _ => rfl) ?_
  refine C_seq ?_
  refine C_seq ?_
  refine C_region ?_
  refine V_y (Y_move rfl) rfl rfl rfl ?_
  refine V_y (Y_lenStr rfl Tryz.underlying9 rfl) rfl rfl rfl ?_
  refine V_y (Y_move rfl) rfl rfl rfl ?_
  refine V_to (fun _ _ => rfl) ?_
  obtain ⟨o1, ho1, hm⟩ := Option.bind_eq_some_iff.1 hm
  refine C_cutG (ι := Int) (fun (s2 : Int) => [(0, .string word)]) (fun (s2 : Int) => fun w' => o1 = .fin s2 ∧ w = w') ?_ ?_
  · refine C_block ?_
    refine C_while ho1 (fun s8 a w' => ∃ i : Unit, Has ⟨77, [], none⟩ a ([(0, .string word), (6, .int .i64 (word.size : Int)), (7, .int .i64 s8)]) ∧ w = w') (fun a ha => ⟨(), ha.sub ⟨rfl, rfl, rfl, trivial⟩, rfl⟩) ?_
    rintro K s8 a _ ⟨_, ha24, rfl⟩ K16
    refine C_of ?_ ha24
    obtain ⟨x10, h11, h12⟩ := K16
    refine C_seq ?_
    refine C_region ?_
    refine V_y (Y_lss rfl rfl) rfl rfl rfl ?_
    refine V_to (fun _ _ => rfl) ?_
    refine C_seq ?_
    refine C_cond rfl (fun hc17 => ?_) (fun hc17 => ?_)
    · rw [if_pos hc17] at h11
      refine C_skip_to (fun _ _ => rfl) ?_
      refine C_seq ?_
      refine C_block ?_
      refine C_seq ?_
      refine C_region ?_
      refine V_y (Y_move rfl) rfl rfl rfl ?_
      refine V_y (Y_assign rfl) rfl rfl rfl ?_
      refine V_to (fun _ _ => rfl) ?_
      refine C_seq ?_
      refine C_region ?_
      refine V_y (Y_move rfl) rfl rfl rfl ?_
      refine V_y (Y_move rfl) rfl rfl rfl ?_
      obtain ⟨x18, hx18, h11⟩ := Option.bind_eq_some_iff.1 h11
      refine V_y (Y_indexS hx18 Tryz.underlying9 rfl rfl) rfl rfl rfl ?_
      refine V_y (Y_lss rfl rfl) rfl rfl rfl ?_
      refine V_y (Y_move rfl) rfl rfl rfl ?_
      obtain ⟨s20, hs20, h11⟩ := Option.bind_eq_some_iff.1 h11
      refine V_cut 5 (fun _ : Unit => [(0, .string word), (6, .int .i64 (word.size : Int)), (7, .int .i64 s8), (19, .bool s20)]) (fun _ w' => w = w') ?_ ?_
      · simp only [List.take, List.drop]
        rcases Bool.eq_false_or_eq_true (decide ((x18.toNat : Int) < 97)) with hc19 | hc19
        · rw [if_pos hc19] at hs20
          refine V_gn rfl rfl rfl hc19 rfl rfl rfl ?_
          refine V_gn rfl rfl rfl hc19 rfl rfl rfl ?_
          refine V_gn rfl rfl rfl hc19 rfl rfl rfl ?_
          refine V_gn rfl rfl rfl hc19 rfl rfl rfl ?_
          refine V_y (Y_pick_te rfl hc19 rfl) rfl rfl rfl ?_
          obtain rfl := Option.some.inj hs20
          exact V_end fun a ha => ⟨(), ha.sub ⟨rfl, rfl, rfl, rfl, trivial⟩, rfl⟩
        · rw [if_neg (nt hc19)] at hs20
          refine V_ge rfl rfl rfl hc19 ?_
          refine V_y (Y_move rfl) rfl rfl rfl ?_
          refine V_ge rfl rfl rfl hc19 ?_
          refine V_y (Y_move rfl) rfl rfl rfl ?_
          refine V_ge rfl rfl rfl hc19 ?_
          refine V_y (Y_indexS hx18 Tryz.underlying9 rfl rfl) rfl rfl rfl ?_
          refine V_ge rfl rfl rfl hc19 ?_
          refine V_y (Y_gtr rfl rfl) rfl rfl rfl ?_
          refine V_y (Y_pick_fe rfl hc19 rfl) rfl rfl rfl ?_
          obtain rfl := Option.some.inj hs20
          exact V_end fun a ha => ⟨(), ha.sub ⟨rfl, rfl, rfl, rfl, trivial⟩, rfl⟩
      simp only [List.take, List.drop]
      rintro _ _ rfl
      refine V_to (fun _ _ => rfl) ?_
      refine C_cond rfl (fun hc21 => ?_) (fun hc21 => ?_)
      · rw [if_pos hc21] at h11
        refine C_seq ?_
        refine C_region ?_
        refine V_y (Y_move rfl) rfl rfl rfl ?_
        refine V_y (Y_assign rfl) rfl rfl rfl ?_
        refine V_to (fun _ _ => rfl) ?_
        obtain rfl := Option.some.inj h11
        obtain rfl := (h12 : Lp.rt _ = _)
        rw [Lp.andThen_rt] at hm
        obtain rfl := Option.some.inj hm
        refine C_ret ?_
        try simp only [↓inBlock_ret, ↓then_ret]
        exact retQ rfl (Res.one Tryz.results31 rfl) ⟨rfl, rfl⟩
      · rw [if_neg (nt hc21)] at h11
        refine C_skip_to (fun _ _ => rfl) ?_
        refine C_region ?_
        refine V_y (Y_addI rfl rfl) rfl rfl rfl ?_
        refine V_y (Y_move rfl) rfl rfl rfl ?_
        obtain rfl := Option.some.inj h11
        refine V_end (fun a ha22 => ?_)
        exact ⟨w64 (s8 + 1), h12, ⟨(), ha22.sub ⟨rfl, rfl, rfl, trivial⟩, rfl⟩⟩
    · rw [if_neg (nt hc17)] at h11
      obtain rfl := Option.some.inj h11
      refine C_exit (fun a ha23 => ?_)
      exact ⟨s8, ha23.sub ⟨rfl, trivial⟩, ⟨h12.symm, rfl⟩⟩
  rintro s2 _ ⟨rfl, rfl⟩ a ha7
  rw [Lp.andThen_fin] at hm
  refine C_at (n := ⟨77, [], none⟩) (fun _ _ => rfl) ?_ ha7
  refine C_seq ?_
  refine C_region ?_
  refine V_y (Y_move rfl) rfl rfl rfl ?_
  refine V_y (Y_lenStr rfl Tryz.underlying9 rfl) rfl rfl rfl ?_
  refine V_y (Y_assign rfl) rfl rfl rfl ?_
  refine V_to (fun _ _ => rfl) ?_
  refine C_seq ?_
  refine C_block ?_
  refine C_seq ?_
  refine C_region ?_
  refine V_y (Y_move rfl) rfl rfl rfl ?_
  refine V_y (Y_lss rfl rfl) rfl rfl rfl ?_
  refine V_y (Y_assign rfl) rfl rfl rfl ?_
  refine V_to (fun _ _ => rfl) ?_
  refine C_cond rfl (fun hc25 => ?_) (fun hc25 => ?_)
  · rw [if_pos hc25] at hm
    refine C_seq ?_
    refine C_region ?_
    refine V_y (Y_move rfl) rfl rfl rfl ?_
    refine V_y (Y_assign rfl) rfl rfl rfl ?_
    refine V_to (fun _ _ => rfl) ?_
    obtain rfl := Option.some.inj hm
    refine C_ret ?_
    try simp only [↓inBlock_ret, ↓then_ret]
    exact retQ rfl (Res.one Tryz.results31 rfl) ⟨rfl, rfl⟩
  · rw [if_neg (nt hc25)] at hm
    refine C_seq ?_
    refine C_region ?_
    refine V_y (Y_move rfl) rfl rfl rfl ?_
    obtain ⟨x26, hx26, hm⟩ := Option.bind_eq_some_iff.1 hm
    refine V_call Tryz.call49 rfl rfl rfl rfl (strings_HasSuffix_c w word (⟨#[105, 101, 115]⟩ : ByteArray) hx26) ?_
    rintro _ _ ⟨rfl, rfl⟩
    refine V_y (Y_assign rfl) rfl rfl rfl ?_
    refine V_to (fun _ _ => rfl) ?_
    refine C_cond rfl (fun hc27 => ?_) (fun hc27 => ?_)
    · rw [if_pos hc27] at hm
      refine C_seq ?_
      refine C_region ?_
      refine V_y (Y_move rfl) rfl rfl rfl ?_
      refine V_y (Y_move rfl) rfl rfl rfl ?_
      refine V_y (Y_subI rfl rfl) rfl rfl rfl ?_
      obtain ⟨x28, hx28, hm⟩ := Option.bind_eq_some_iff.1 hm
      refine V_y (Y_sliceSH hx28 Tryz.underlying9 rfl rfl) rfl rfl rfl ?_
      obtain ⟨x29, hx29, hm⟩ := Option.bind_eq_some_iff.1 hm
      refine V_y (Y_sadd hx29 rfl rfl) rfl rfl rfl ?_
      refine V_y (Y_assign rfl) rfl rfl rfl ?_
      refine V_to (fun _ _ => rfl) ?_
      obtain rfl := Option.some.inj hm
      refine C_ret ?_
      try simp only [↓inBlock_ret, ↓then_ret]
      exact retQ rfl (Res.one Tryz.results31 rfl) ⟨rfl, rfl⟩
    · rw [if_neg (nt hc27)] at hm
      refine C_seq ?_
      refine C_region ?_
      refine V_y (Y_move rfl) rfl rfl rfl ?_
      obtain ⟨x30, hx30, hm⟩ := Option.bind_eq_some_iff.1 hm
      refine V_call Tryz.call49 rfl rfl rfl rfl (strings_HasSuffix_c w word (⟨#[115, 115, 101, 115]⟩ : ByteArray) hx30) ?_
      rintro _ _ ⟨rfl, rfl⟩
      refine V_y (Y_assign rfl) rfl rfl rfl ?_
      refine V_to (fun _ _ => rfl) ?_
      refine C_cond rfl (fun hc31 => ?_) (fun hc31 => ?_)
      · rw [if_pos hc31] at hm
        refine C_seq ?_
        refine C_region ?_
        refine V_y (Y_move rfl) rfl rfl rfl ?_
        refine V_y (Y_move rfl) rfl rfl rfl ?_
        refine V_y (Y_subI rfl rfl) rfl rfl rfl ?_
        obtain ⟨x32, hx32, hm⟩ := Option.bind_eq_some_iff.1 hm
        refine V_y (Y_sliceSH hx32 Tryz.underlying9 rfl rfl) rfl rfl rfl ?_
        refine V_y (Y_assign rfl) rfl rfl rfl ?_
        refine V_to (fun _ _ => rfl) ?_
        obtain rfl := Option.some.inj hm
        refine C_ret ?_
        try simp only [↓inBlock_ret, ↓then_ret]
        exact retQ rfl (Res.one Tryz.results31 rfl) ⟨rfl, rfl⟩
      · rw [if_neg (nt hc31)] at hm
        refine C_seq ?_
        refine C_region ?_
        refine V_y (Y_move rfl) rfl rfl rfl ?_
        obtain ⟨x33, hx33, hm⟩ := Option.bind_eq_some_iff.1 hm
        refine V_call Tryz.call49 rfl rfl rfl rfl (strings_HasSuffix_c w word (⟨#[115, 115]⟩ : ByteArray) hx33) ?_
        rintro _ _ ⟨rfl, rfl⟩
        refine V_y (Y_assign rfl) rfl rfl rfl ?_
        refine V_to (fun _ _ => rfl) ?_
        refine C_cond rfl (fun hc34 => ?_) (fun hc34 => ?_)
        · rw [if_pos hc34] at hm
          refine C_seq ?_
          refine C_region ?_
          refine V_y (Y_move rfl) rfl rfl rfl ?_
          refine V_y (Y_assign rfl) rfl rfl rfl ?_
          refine V_to (fun _ _ => rfl) ?_
          obtain rfl := Option.some.inj hm
          refine C_ret ?_
          try simp only [↓inBlock_ret, ↓then_ret]
          exact retQ rfl (Res.one Tryz.results31 rfl) ⟨rfl, rfl⟩
        · rw [if_neg (nt hc34)] at hm
          refine C_seq ?_
          refine C_region ?_
          refine V_y (Y_move rfl) rfl rfl rfl ?_
          obtain ⟨x35, hx35, hm⟩ := Option.bind_eq_some_iff.1 hm
          refine V_call Tryz.call49 rfl rfl rfl rfl (strings_HasSuffix_c w word (⟨#[115]⟩ : ByteArray) hx35) ?_
          rintro _ _ ⟨rfl, rfl⟩
          refine V_y (Y_assign rfl) rfl rfl rfl ?_
          refine V_to (fun _ _ => rfl) ?_
          refine C_cond rfl (fun hc36 => ?_) (fun hc36 => ?_)
          · rw [if_pos hc36] at hm
            refine C_seq ?_
            refine C_region ?_
            refine V_y (Y_move rfl) rfl rfl rfl ?_
            refine V_y (Y_move rfl) rfl rfl rfl ?_
            refine V_y (Y_subI rfl rfl) rfl rfl rfl ?_
            obtain ⟨x37, hx37, hm⟩ := Option.bind_eq_some_iff.1 hm
            refine V_y (Y_sliceSH hx37 Tryz.underlying9 rfl rfl) rfl rfl rfl ?_
            refine V_y (Y_assign rfl) rfl rfl rfl ?_
            refine V_to (fun _ _ => rfl) ?_
            obtain rfl := Option.some.inj hm
            refine C_ret ?_
            try simp only [↓inBlock_ret, ↓then_ret]
            exact retQ rfl (Res.one Tryz.results31 rfl) ⟨rfl, rfl⟩
          · rw [if_neg (nt hc36)] at hm
            refine C_seq ?_
            refine C_region ?_
            refine V_y (Y_move rfl) rfl rfl rfl ?_
            obtain ⟨x38, hx38, hm⟩ := Option.bind_eq_some_iff.1 hm
            refine V_call Tryz.call49 rfl rfl rfl rfl (strings_HasSuffix_c w word (⟨#[105, 110, 103]⟩ : ByteArray) hx38) ?_
            rintro _ _ ⟨rfl, rfl⟩
            refine V_y (Y_move rfl) rfl rfl rfl ?_
            refine V_cut 3 (fun _ : Unit => [(0, .string word), (4, .int .i64 (word.size : Int)), (60, .bool (x38 && (decide ((6 : Int) ≤ (word.size : Int)))))]) (fun _ w' => w = w') ?_ ?_
            · simp only [List.take, List.drop]
              rcases Bool.eq_false_or_eq_true (x38) with hc39 | hc39
              · refine V_ge rfl rfl rfl hc39 ?_
                refine V_y (Y_move rfl) rfl rfl rfl ?_
                refine V_ge rfl rfl rfl hc39 ?_
                refine V_y (Y_geq rfl rfl) rfl rfl rfl ?_
                refine V_y (Y_pick_te rfl hc39 rfl) rfl rfl rfl ?_
                exact V_end fun a ha => ⟨(), ha.sub ⟨rfl, rfl, (by rw [hc39]; rfl), trivial⟩, rfl⟩
              · refine V_gn rfl rfl rfl hc39 rfl rfl rfl ?_
                refine V_gn rfl rfl rfl hc39 rfl rfl rfl ?_
                refine V_y (Y_pick_fe rfl hc39 rfl) rfl rfl rfl ?_
                exact V_end fun a ha => ⟨(), ha.sub ⟨rfl, rfl, (by rw [hc39]; rfl), trivial⟩, rfl⟩
            simp only [List.take, List.drop]
            rintro _ _ rfl
            refine V_y (Y_assign rfl) rfl rfl rfl ?_
            refine V_to (fun _ _ => rfl) ?_
            refine C_cond rfl (fun hc41 => ?_) (fun hc41 => ?_)
            · rw [if_pos hc41] at hm
              refine C_seq ?_
              refine C_region ?_
              refine V_y (Y_move rfl) rfl rfl rfl ?_
              refine V_y (Y_move rfl) rfl rfl rfl ?_
              refine V_y (Y_subI rfl rfl) rfl rfl rfl ?_
              obtain ⟨x42, hx42, hm⟩ := Option.bind_eq_some_iff.1 hm
              refine V_y (Y_sliceSH hx42 Tryz.underlying9 rfl rfl) rfl rfl rfl ?_
              refine V_y (Y_assign rfl) rfl rfl rfl ?_
              refine V_to (fun _ _ => rfl) ?_
              obtain rfl := Option.some.inj hm
              refine C_ret ?_
              try simp only [↓inBlock_ret, ↓then_ret]
              exact retQ rfl (Res.one Tryz.results31 rfl) ⟨rfl, rfl⟩
            · rw [if_neg (nt hc41)] at hm
              refine C_seq ?_
              refine C_region ?_
              refine V_y (Y_move rfl) rfl rfl rfl ?_
              obtain ⟨x43, hx43, hm⟩ := Option.bind_eq_some_iff.1 hm
              refine V_call Tryz.call49 rfl rfl rfl rfl (strings_HasSuffix_c w word (⟨#[101, 100]⟩ : ByteArray) hx43) ?_
              rintro _ _ ⟨rfl, rfl⟩
              refine V_y (Y_move rfl) rfl rfl rfl ?_
              refine V_cut 3 (fun _ : Unit => [(0, .string word), (4, .int .i64 (word.size : Int)), (71, .bool (x43 && (decide ((5 : Int) ≤ (word.size : Int)))))]) (fun _ w' => w = w') ?_ ?_
              · simp only [List.take, List.drop]
                rcases Bool.eq_false_or_eq_true (x43) with hc44 | hc44
                · refine V_ge rfl rfl rfl hc44 ?_
                  refine V_y (Y_move rfl) rfl rfl rfl ?_
                  refine V_ge rfl rfl rfl hc44 ?_
                  refine V_y (Y_geq rfl rfl) rfl rfl rfl ?_
                  refine V_y (Y_pick_te rfl hc44 rfl) rfl rfl rfl ?_
                  exact V_end fun a ha => ⟨(), ha.sub ⟨rfl, rfl, (by rw [hc44]; rfl), trivial⟩, rfl⟩
                · refine V_gn rfl rfl rfl hc44 rfl rfl rfl ?_
                  refine V_gn rfl rfl rfl hc44 rfl rfl rfl ?_
                  refine V_y (Y_pick_fe rfl hc44 rfl) rfl rfl rfl ?_
                  exact V_end fun a ha => ⟨(), ha.sub ⟨rfl, rfl, (by rw [hc44]; rfl), trivial⟩, rfl⟩
              simp only [List.take, List.drop]
              rintro _ _ rfl
              refine V_y (Y_assign rfl) rfl rfl rfl ?_
              refine V_to (fun _ _ => rfl) ?_
              refine C_cond rfl (fun hc46 => ?_) (fun hc46 => ?_)
              · rw [if_pos hc46] at hm
                refine C_seq ?_
                refine C_region ?_
                refine V_y (Y_move rfl) rfl rfl rfl ?_
                refine V_y (Y_move rfl) rfl rfl rfl ?_
                refine V_y (Y_subI rfl rfl) rfl rfl rfl ?_
                obtain ⟨x47, hx47, hm⟩ := Option.bind_eq_some_iff.1 hm
                refine V_y (Y_sliceSH hx47 Tryz.underlying9 rfl rfl) rfl rfl rfl ?_
                refine V_y (Y_assign rfl) rfl rfl rfl ?_
                refine V_to (fun _ _ => rfl) ?_
                obtain rfl := Option.some.inj hm
                refine C_ret ?_
                try simp only [↓inBlock_ret, ↓then_ret]
                exact retQ rfl (Res.one Tryz.results31 rfl) ⟨rfl, rfl⟩
              · rw [if_neg (nt hc46)] at hm
                refine C_skip_to (fun _ _ => rfl) ?_
                refine C_seq ?_
                refine C_region ?_
                refine V_y (Y_move rfl) rfl rfl rfl ?_
                refine V_y (Y_assign rfl) rfl rfl rfl ?_
                refine V_to (fun _ _ => rfl) ?_
                obtain rfl := Option.some.inj hm
                refine C_ret ?_
                try simp only [↓inBlock_ret, ↓then_ret]
                exact retQ rfl (Res.one Tryz.results31 rfl) ⟨rfl, rfl⟩

set_option maxRecDepth 4000 in
set_option maxHeartbeats 4000000 in
theorem slices_BinarySearchFunc_Lknow_Term_know_Term_string_c (w : World) {A : Nat → Prop} (hA : ∀ b, w.heap.size ≤ b → A b) (x : (List know_Term)) (v_x : Value) (h_x : Sl A w v_x x) (target : ByteArray) (cmp : know_Term → ByteArray → Option Int) (cmp_f : FuncId) (cmp_a cmp_c : Array Value) (cmp_call : ∀ (args : Array Value) (w : World), (callFunc cmp_f args).run Tryz.prog w = .ok (.enter cmp_f args) w) (cmp_spec : ∀ (w1 : World) (A1 : Nat → Prop), Tr Dw w.heap.size A w A1 w1 → (∀ b, w1.heap.size ≤ b → A1 b) → ∀ (y0 : know_Term) (v1 : Value) (h2 : Sl A1 w1 v1 y0.list_) (y1 : ByteArray) (r : Int), cmp y0 y1 = some r → Ret Tryz.prog cmp_f (cmp_a ++ #[.agg #[.string y0.word, v1], .string y1] ++ cmp_c) w1 fun v w' => v = .int .i64 r ∧ Kp Dw w1 w') {r : (Int × Bool)} (hm : slices_BinarySearchFunc_Lknow_Term_know_Term_string x target cmp = some r) : Ret Tryz.prog 56 #[v_x, .string target, .func (.func cmp_f) cmp_a cmp_c] w fun v w' => v = .tuple #[.int .i64 r.1, .bool r.2] ∧ Kp Dw w w' := by
  unfold slices_BinarySearchFunc_Lknow_Term_know_Term_string at hm
  refine enter Tryz.func56 rfl Tryz.ntmps56 rfl ?_
  have hA0 := hA
  have hB := Nat.le_refl w.heap.size
  have hK : Tr Dw w.heap.size A w A w := Tr.refl (Dw := Dw) hA
  have hH : Hp w.heap.size A w [] := Hp.nil
  refine C_seq ?_
  refine C_region ?_
  refine V_y (Y_assign rfl) rfl rfl rfl ?_
  refine V_y (Y_assign rfl) rfl rfl rfl ?_
  refine V_to (fun _ _ => rfl) ?_
  refine C_seq ?_
  refine C_region ?_
  refine V_y (Y_move rfl) rfl rfl rfl ?_
  refine V_y (Y_lenSl h_x rfl Tryz.underlying23 rfl) rfl rfl rfl ?_
  refine V_y (Y_assign rfl) rfl rfl rfl ?_
  refine V_to (fun _ _ => rfl) ?_
  refine C_seq ?_
  refine C_region ?_
  refine V_y (Y_move rfl) rfl rfl rfl ?_
  refine V_y (Y_assign rfl) rfl rfl rfl ?_
  refine V_y (Y_assign rfl) rfl rfl rfl ?_
  refine V_to (fun _ _ => rfl) ?_
  refine C_seq ?_
  obtain ⟨o3, ho3, hm⟩ := Option.bind_eq_some_iff.1 hm
  refine C_cutG (ι := ((Int × Int) × (Nat → Prop))) (fun ⟨s4, A10⟩ => [(0, v_x), (1, .string target), (2, .func (.func cmp_f) cmp_a cmp_c), (8, .int .i64 (x.length : Int)), (9, .int .i64 s4.1)]) (fun ⟨s4, A10⟩ => fun w' => o3 = .fin s4 ∧ Hp w.heap.size A10 w' ([]) ∧ Tr Dw w.heap.size A w A10 w') ?_ ?_
  · refine C_block ?_
    refine C_while ho3 (fun s12 a w' => ∃ i : (Nat → Prop), Has ⟨49, [], none⟩ a ([(0, v_x), (1, .string target), (2, .func (.func cmp_f) cmp_a cmp_c), (8, .int .i64 (x.length : Int)), (9, .int .i64 s12.1), (10, .int .i64 s12.2)]) ∧ Hp w.heap.size i w' ([]) ∧ Tr Dw w.heap.size A w i w') (fun a ha => ⟨A, ha.sub ⟨rfl, rfl, rfl, rfl, rfl, rfl, trivial⟩, ⟨hH, Tr.refl (Dw := Dw) hA⟩⟩) ?_
    rintro K s12 a w13 ⟨A14, ha56, hH15, hr5⟩ K22
    refine C_of ?_ ha56
    replace h_x := Sl.tr (Dw := Dw) h_x hr5
    replace hK := Tr.trans (Dw := Dw) hK hr5
    replace hB := Nat.le_trans hB hr5.ex.size
    replace hA := hr5.new
    replace hH : Hp w.heap.size A14 w13 ([]) := hH15
    obtain ⟨x16, h17, h18⟩ := K22
    refine C_seq ?_
    refine C_seq ?_
    refine C_region ?_
    refine V_y (Y_move rfl) rfl rfl rfl ?_
    refine V_y (Y_move rfl) rfl rfl rfl ?_
    refine V_y (Y_lss rfl rfl) rfl rfl rfl ?_
    refine V_to (fun _ _ => rfl) ?_
    refine C_cond rfl (fun hc23 => ?_) (fun hc23 => ?_)
    · rw [if_pos hc23] at h17
      refine C_skip_to (fun _ _ => rfl) ?_
      obtain ⟨s25, ho24, h17⟩ := Option.bind_eq_some_iff.1 h17
      refine C_cutG (ι := (Nat → Prop)) (fun (A30 : (Nat → Prop)) => [(0, v_x), (1, .string target), (2, .func (.func cmp_f) cmp_a cmp_c), (8, .int .i64 (x.length : Int)), (9, .int .i64 s25.1), (10, .int .i64 s25.2)]) (fun (A30 : (Nat → Prop)) => fun w' => Hp w.heap.size A30 w' ([]) ∧ Tr Dw w.heap.size A14 w13 A30 w') ?_ ?_
      · have hr26 : Tr Dw w.heap.size A14 w13 A14 w13 := Tr.refl (Dw := Dw) hA
        refine C_block ?_
        refine C_seq ?_
        refine C_region ?_
        refine V_y (Y_move rfl) rfl rfl rfl ?_
        refine V_y (Y_move rfl) rfl rfl rfl ?_
        refine V_y (Y_addI rfl rfl) rfl rfl rfl ?_
        refine V_y (Y_convI Tryz.underlying3 Tryz.underlying68 rfl) rfl rfl rfl ?_
        obtain ⟨x32, hx32, ho24⟩ := Option.bind_eq_some_iff.1 ho24
        refine V_y (Y_shr hx32 rfl rfl) rfl rfl rfl ?_
        refine V_y (Y_convI Tryz.underlying68 Tryz.underlying3 rfl) rfl rfl rfl ?_
        refine V_y (Y_assign rfl) rfl rfl rfl ?_
        refine V_to (fun _ _ => rfl) ?_
        refine C_seq ?_
        refine C_region ?_
        refine V_y (Y_move rfl) rfl rfl rfl ?_
        refine V_y (Y_move rfl) rfl rfl rfl ?_
        refine V_y (Y_move rfl) rfl rfl rfl ?_
        obtain ⟨x33, hx33, ho24⟩ := Option.bind_eq_some_iff.1 ho24
        refine V_indexAddr h_x hx33 Tryz.underlying23 Tryz.sizeOf44 rfl rfl rfl ?_
        intro b34 o35 h36
        obtain ⟨v37, h39, h38⟩ := El_know_Term h36
        refine V_y (Y_loadA h39 Tryz.isAgg44 Tryz.sizeOf44 rfl) rfl rfl rfl ?_
        refine V_y (Y_move rfl) rfl rfl rfl ?_
        obtain ⟨x40, hx40, ho24⟩ := Option.bind_eq_some_iff.1 ho24
        refine V_call cmp_call rfl rfl rfl rfl (cmp_spec w13 _ hK hA x33 v37 h38 target _ hx40) ?_
        rintro _ w41 ⟨rfl, hk42⟩
        have ht43 := Kp.tr (Dw := Dw) hk42 hA hB
        replace hH := Hp.kp (Dw := Dw) hH hk42
        replace h_x := Sl.tr (Dw := Dw) h_x ht43
        replace h36 := El.tr (Dw := Dw) h36 ht43
        replace h38 := Sl.tr (Dw := Dw) h38 ht43
        replace hK := Tr.trans (Dw := Dw) hK ht43
        replace hr5 := Tr.trans (Dw := Dw) hr5 ht43
        replace hr26 := Tr.trans (Dw := Dw) hr26 ht43
        replace hB := Nat.le_trans hB ht43.ex.size
        replace hA := ht43.new
        refine V_y (Y_lss rfl rfl) rfl rfl rfl ?_
        refine V_to (fun _ _ => rfl) ?_
        obtain ⟨s45, ho44, ho24⟩ := Option.bind_eq_some_iff.1 ho24
        refine C_cutG (ι := Unit) (fun (_ : Unit) => [(0, v_x), (1, .string target), (2, .func (.func cmp_f) cmp_a cmp_c), (8, .int .i64 (x.length : Int)), (9, .int .i64 s45.1), (10, .int .i64 s45.2)]) (fun (_ : Unit) => fun w' => w41 = w') ?_ ?_
        · refine C_cond rfl (fun hc50 => ?_) (fun hc50 => ?_)
          · rw [if_pos hc50] at ho44
            refine C_region ?_
            refine V_y (Y_move rfl) rfl rfl rfl ?_
            refine V_y (Y_addI rfl rfl) rfl rfl rfl ?_
            refine V_y (Y_assign rfl) rfl rfl rfl ?_
            obtain rfl := Option.some.inj ho44
            refine V_end (fun a ha51 => ?_)
            exact ⟨(), ha51.sub ⟨rfl, rfl, rfl, rfl, rfl, rfl, trivial⟩, rfl⟩
          · rw [if_neg (nt hc50)] at ho44
            refine C_region ?_
            refine V_y (Y_move rfl) rfl rfl rfl ?_
            refine V_y (Y_assign rfl) rfl rfl rfl ?_
            obtain rfl := Option.some.inj ho44
            refine V_end (fun a ha52 => ?_)
            exact ⟨(), ha52.sub ⟨rfl, rfl, rfl, rfl, rfl, rfl, trivial⟩, rfl⟩
        rintro _ _ rfl a ha49
        obtain rfl := Option.some.inj ho24
        exact ⟨A14, ha49.sub ⟨rfl, rfl, rfl, rfl, rfl, rfl, trivial⟩, ⟨hH, hr26⟩⟩
      rintro A30 w27 ⟨hH31, hk28⟩ a ha29
      replace h_x := Sl.tr (Dw := Dw) h_x hk28
      replace hK := Tr.trans (Dw := Dw) hK hk28
      replace hr5 := Tr.trans (Dw := Dw) hr5 hk28
      replace hB := Nat.le_trans hB hk28.ex.size
      replace hA := hk28.new
      replace hH : Hp w.heap.size A30 w27 ([]) := hH31
      obtain rfl := Option.some.inj h17
      exact ⟨(s25.1, s25.2), h18, ⟨A30, ha29.sub ⟨rfl, rfl, rfl, rfl, rfl, rfl, trivial⟩, ⟨hH, hr5⟩⟩⟩
    · rw [if_neg (nt hc23)] at h17
      obtain rfl := Option.some.inj h17
      refine C_exit (fun a ha55 => ?_)
      exact ⟨((s12.1, s12.2), A14), ha55.sub ⟨rfl, rfl, rfl, rfl, rfl, trivial⟩, ⟨h18.symm, hH, hr5⟩⟩
  rintro ⟨s4, A10⟩ w7 ⟨rfl, hH11, hk8⟩ a ha9
  rw [Lp.andThen_fin] at hm
  replace h_x := Sl.tr (Dw := Dw) h_x hk8
  replace hK := Tr.trans (Dw := Dw) hK hk8
  replace hB := Nat.le_trans hB hk8.ex.size
  replace hA := hk8.new
  replace hH : Hp w.heap.size A10 w7 ([]) := hH11
  refine C_at (n := ⟨49, [], none⟩) (fun _ _ => rfl) ?_ ha9
  refine C_seq ?_
  obtain ⟨s58, ho57, hm⟩ := Option.bind_eq_some_iff.1 hm
  refine C_cutG (ι := (Nat → Prop)) (fun (A63 : (Nat → Prop)) => [(6, .int .i64 s58.1), (7, .bool s58.2)]) (fun (A63 : (Nat → Prop)) => fun w' => Hp w.heap.size A63 w' ([]) ∧ Tr Dw w.heap.size A10 w7 A63 w') ?_ ?_
  · have hr59 : Tr Dw w.heap.size A10 w7 A10 w7 := Tr.refl (Dw := Dw) hA
    refine C_region ?_
    refine V_y (Y_move rfl) rfl rfl rfl ?_
    refine V_y (Y_move rfl) rfl rfl rfl ?_
    refine V_y (Y_move rfl) rfl rfl rfl ?_
    refine V_y (Y_lss rfl rfl) rfl rfl rfl ?_
    refine V_y (Y_move rfl) rfl rfl rfl ?_
    rcases Bool.eq_false_or_eq_true (decide (s4.1 < (x.length : Int))) with hc65 | hc65
    · rw [if_pos hc65] at ho57
      refine V_ge rfl rfl rfl hc65 ?_
      refine V_y (Y_move rfl) rfl rfl rfl ?_
      refine V_ge rfl rfl rfl hc65 ?_
      refine V_y (Y_move rfl) rfl rfl rfl ?_
      refine V_ge rfl rfl rfl hc65 ?_
      refine V_y (Y_move rfl) rfl rfl rfl ?_
      refine V_ge rfl rfl rfl hc65 ?_
      obtain ⟨x66, hx66, ho57⟩ := Option.bind_eq_some_iff.1 ho57
      refine V_indexAddr h_x hx66 Tryz.underlying23 Tryz.sizeOf44 rfl rfl rfl ?_
      intro b67 o68 h69
      refine V_ge rfl rfl rfl hc65 ?_
      obtain ⟨v70, h72, h71⟩ := El_know_Term h69
      refine V_y (Y_loadA h72 Tryz.isAgg44 Tryz.sizeOf44 rfl) rfl rfl rfl ?_
      refine V_ge rfl rfl rfl hc65 ?_
      refine V_y (Y_move rfl) rfl rfl rfl ?_
      refine V_ge rfl rfl rfl hc65 ?_
      obtain ⟨x73, hx73, ho57⟩ := Option.bind_eq_some_iff.1 ho57
      refine V_call cmp_call rfl rfl rfl rfl (cmp_spec w7 _ hK hA x66 v70 h71 target _ hx73) ?_
      rintro _ w74 ⟨rfl, hk75⟩
      have ht76 := Kp.tr (Dw := Dw) hk75 hA hB
      replace hH := Hp.kp (Dw := Dw) hH hk75
      replace h_x := Sl.tr (Dw := Dw) h_x ht76
      replace h69 := El.tr (Dw := Dw) h69 ht76
      replace h71 := Sl.tr (Dw := Dw) h71 ht76
      replace hK := Tr.trans (Dw := Dw) hK ht76
      replace hr59 := Tr.trans (Dw := Dw) hr59 ht76
      replace hB := Nat.le_trans hB ht76.ex.size
      replace hA := ht76.new
      refine V_ge rfl rfl rfl hc65 ?_
      refine V_y (Y_eql rfl rfl) rfl rfl rfl ?_
      refine V_y (Y_pick_te rfl hc65 rfl) rfl rfl rfl ?_
      refine V_y (Y_assign rfl) rfl rfl rfl ?_
      refine V_y (Y_assign rfl) rfl rfl rfl ?_
      obtain rfl := Option.some.inj ho57
      refine V_end (fun a ha77 => ?_)
      exact ⟨A10, ha77.sub ⟨rfl, rfl, trivial⟩, ⟨hH, hr59⟩⟩
    · rw [if_neg (nt hc65)] at ho57
      refine V_gn rfl rfl rfl hc65 rfl rfl rfl ?_
      refine V_gn rfl rfl rfl hc65 rfl rfl rfl ?_
      refine V_gn rfl rfl rfl hc65 rfl rfl rfl ?_
      refine V_gn rfl rfl rfl hc65 rfl rfl rfl ?_
      refine V_gn rfl rfl rfl hc65 rfl rfl rfl ?_
      refine V_gn rfl rfl rfl hc65 rfl rfl rfl ?_
      refine V_gn rfl rfl rfl hc65 rfl rfl rfl ?_
      refine V_gn rfl rfl rfl hc65 rfl rfl rfl ?_
      refine V_y (Y_pick_fe rfl hc65 rfl) rfl rfl rfl ?_
      refine V_y (Y_assign rfl) rfl rfl rfl ?_
      refine V_y (Y_assign rfl) rfl rfl rfl ?_
      obtain rfl := Option.some.inj ho57
      refine V_end (fun a ha78 => ?_)
      exact ⟨A10, ha78.sub ⟨rfl, rfl, trivial⟩, ⟨hH, hr59⟩⟩
  rintro A63 w60 ⟨hH64, hk61⟩ a ha62
  replace hK := Tr.trans (Dw := Dw) hK hk61
  replace hB := Nat.le_trans hB hk61.ex.size
  replace hA := hk61.new
  replace hH : Hp w.heap.size A63 w60 ([]) := hH64
  refine C_at (n := ⟨49, [], none⟩) (fun _ _ => rfl) ?_ ha62
  obtain rfl := Option.some.inj hm
  refine C_ret ?_
  try simp only [↓inBlock_ret, ↓then_ret]
  exact retQ rfl (Res.two Tryz.results56 rfl rfl) ⟨rfl, hK.kp⟩

end Go.Proofs.YtdfohednlmnciaaGreatDoor.W
