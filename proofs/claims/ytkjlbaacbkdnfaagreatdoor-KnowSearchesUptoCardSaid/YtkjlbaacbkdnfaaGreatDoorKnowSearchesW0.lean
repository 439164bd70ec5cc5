/-
  Written by program (gen.py) from the IR of the dump: each function computes its model.
-/
import Derived.Test.YtkjlbaacbkdnfaaGreatDoorProg
import Derived.Test.YtkjlbaacbkdnfaaGreatDoorGe
import Derived.Test.YtkjlbaacbkdnfaaGreatDoorKnowSearchesM
import Derived.KernelRfl
import Derived.Test.YtkjlbaacbkdnfaaGreatDoorHs
import Derived.Test.YtkjlbaacbkdnfaaGreatDoorGu
import Derived.Shelf.Small.Strs
import Derived.Shelf.Strings.OnBuilder
import Derived.Shelf.Strings.SlTrimAscii
import Derived.Test.YtkjlbaacbkdnfaaGreatDoorGi
import Derived.Test.YtkjlbaacbkdnfaaGreatDoorHc
import Derived.Test.YtkjlbaacbkdnfaaGreatDoorHa
import Derived.Test.YtkjlbaacbkdnfaaGreatDoorGj
import Derived.Test.YtkjlbaacbkdnfaaGreatDoorGv
import Derived.Test.YtkjlbaacbkdnfaaGreatDoorHe
namespace Go.Proofs.YtkjlbaacbkdnfaaGreatDoor.W
open Go Go.RowKit Go.Pu Go.Gw Go.Proofs Go.Proofs.YtkjlbaacbkdnfaaGreatDoor.M
set_option linter.unusedVariables false
set_option linter.unusedSimpArgs false
variable {Dw : Prop}

theorem Tryz_info9 : Tryz.prog.info? 9 = some Tryz.t9 := by kernel_rfl
theorem Tryz_info22 : Tryz.prog.info? 22 = some Tryz.t22 := by kernel_rfl
theorem Tryz_info23 : Tryz.prog.info? 23 = some Tryz.t23 := by kernel_rfl
theorem Tryz_info35 : Tryz.prog.info? 35 = some Tryz.t35 := by kernel_rfl
theorem Tryz_info51 : Tryz.prog.info? 51 = some Tryz.t51 := by kernel_rfl
theorem Tryz_places35 : ∀ fs, Tryz.prog.underlying 35 = some (.struct fs) → ∀ w : World, (Array.mapM (fun (f : Field) => do pure (f.offset, ← Go.sizeOf f.type)) fs).run Tryz.prog w = .ok #[(0, 1), (1, 1)] w := by
 intro fs h w
 rw [Tryz.underlying35] at h
 cases h
 kernel_rfl
theorem Tryz_places51 : ∀ fs, Tryz.prog.underlying 51 = some (.struct fs) → ∀ w : World, (Array.mapM (fun (f : Field) => do pure (f.offset, ← Go.sizeOf f.type)) fs).run Tryz.prog w = .ok #[(0, 1), (1, 1)] w := by
 intro fs h w
 rw [Tryz.underlying51] at h
 cases h
 kernel_rfl
theorem Tryz_places69 : ∀ fs, Tryz.prog.underlying 69 = some (.struct fs) → ∀ w : World, (Array.mapM (fun (f : Field) => do pure (f.offset, ← Go.sizeOf f.type)) fs).run Tryz.prog w = .ok #[(0, 1), (1, 1), (2, 1)] w := by
 intro fs h w
 rw [Tryz.underlying69] at h
 cases h
 kernel_rfl
theorem Tryz_eqt35_10000 (a0 : Int) (a1 : Int) (b0 : Int) (b1 : Int) (w : World) : (Op.equalIn 10000 35 (.agg #[.int .i64 a0, .int .i64 a1]) (.agg #[.int .i64 b0, .int .i64 b1])).run Tryz.prog w = .ok (a0 == b0 && (a1 == b1)) w := by
 refine (run_equalIn_struct w 9999 35 _ _ (by kernel_rfl) (by kernel_rfl)).trans ?_
 rw [show Tryz.prog.fieldsOf 35 = _ from by unfold Program.fieldsOf; rw [Tryz.underlying35]]
 cases h0 : (a0 == b0) <;> cases h1 : (a1 == b1) <;> simp_all [Op.eqFields, part, strEq, Tryz.isAgg3, run_equalIn_int _ _ _ _ _ _ _ Tryz.underlying3]
theorem Tryz_eqg35 : Tryz.prog.eqGuardType Tryz.prog.depth 35 = false := by kernel_rfl
theorem Tryz_mixed : Tryz.prog.follows .mixedOrders = true := by kernel_rfl

instance : GoT know_Posting := GoT.of (β := Int × (List Int) × (List Int)) fun x => (x.id_, x.title, x.body)

theorem El_know_Posting_ {A : Nat → Prop} {w : World} {b off : Nat} {x : know_Posting} (h : El A w b off x) : El (α := Int × (List Int) × (List Int)) A w b off (x.id_, x.title, x.body) := h

theorem El_know_Posting_0 {A : Nat → Prop} {w : World} {b off : Nat} {x : know_Posting} (h : El A w b off x) : El A w b (off + 0) x.id_ := El.fst (El_know_Posting_ h)

theorem El_know_Posting_1 {A : Nat → Prop} {w : World} {b off : Nat} {x : know_Posting} (h : El A w b off x) : El A w b (off + 1) x.title := El.fst (El.snd (El_know_Posting_ h))

theorem El_know_Posting_2 {A : Nat → Prop} {w : World} {b off : Nat} {x : know_Posting} (h : El A w b off x) : El A w b (off + 2) x.body := El.snd (El.snd (El_know_Posting_ h))

theorem El_know_Posting {A : Nat → Prop} {w : World} {b off : Nat} {x : know_Posting} (h : El A w b off x) : ∃ v1 v3, At w b off [.int .i64 x.id_, v1, v3] ∧ Sl A w v1 x.title ∧ Sl A w v3 x.body := by
 obtain ⟨h1, h2, cs, h3, h4⟩ := h
 obtain ⟨_, _, rfl, rfl, ⟨_, _, rfl, ⟨u1, rfl, g1⟩, ⟨u2, rfl, g2⟩⟩⟩ := h3
 exact ⟨u1, u2, h4, g1, g2⟩

instance : GoT know_Term := GoT.of (β := ByteArray × (List know_Posting)) fun x => (x.word, x.list_)

theorem El_know_Term_ {A : Nat → Prop} {w : World} {b off : Nat} {x : know_Term} (h : El A w b off x) : El (α := ByteArray × (List know_Posting)) A w b off (x.word, x.list_) := h

theorem El_know_Term_0 {A : Nat → Prop} {w : World} {b off : Nat} {x : know_Term} (h : El A w b off x) : El A w b (off + 0) x.word := El.fst (El_know_Term_ h)

theorem El_know_Term_1 {A : Nat → Prop} {w : World} {b off : Nat} {x : know_Term} (h : El A w b off x) : El A w b (off + 1) x.list_ := El.snd (El_know_Term_ h)

theorem El_know_Term {A : Nat → Prop} {w : World} {b off : Nat} {x : know_Term} (h : El A w b off x) : ∃ v1, At w b off [.string x.word, v1] ∧ Sl A w v1 x.list_ := by
 obtain ⟨h1, h2, cs, h3, h4⟩ := h
 obtain ⟨_, _, rfl, rfl, ⟨u1, rfl, g1⟩⟩ := h3
 exact ⟨u1, h4, g1⟩

instance : GoT know_Index := GoT.of (β := (List Int) × (List Int) × (List know_Term)) fun x => (x.ids, x.sizes, x.terms)

theorem El_know_Index_ {A : Nat → Prop} {w : World} {b off : Nat} {x : know_Index} (h : El A w b off x) : El (α := (List Int) × (List Int) × (List know_Term)) A w b off (x.ids, x.sizes, x.terms) := h

theorem El_know_Index_0 {A : Nat → Prop} {w : World} {b off : Nat} {x : know_Index} (h : El A w b off x) : El A w b (off + 0) x.ids := El.fst (El_know_Index_ h)

theorem El_know_Index_1 {A : Nat → Prop} {w : World} {b off : Nat} {x : know_Index} (h : El A w b off x) : El A w b (off + 1) x.sizes := El.fst (El.snd (El_know_Index_ h))

theorem El_know_Index_2 {A : Nat → Prop} {w : World} {b off : Nat} {x : know_Index} (h : El A w b off x) : El A w b (off + 2) x.terms := El.snd (El.snd (El_know_Index_ h))

theorem El_know_Index {A : Nat → Prop} {w : World} {b off : Nat} {x : know_Index} (h : El A w b off x) : ∃ v1 v3 v5, At w b off [v1, v3, v5] ∧ Sl A w v1 x.ids ∧ Sl A w v3 x.sizes ∧ Sl A w v5 x.terms := by
 obtain ⟨h1, h2, cs, h3, h4⟩ := h
 obtain ⟨_, _, rfl, ⟨u1, rfl, g1⟩, ⟨_, _, rfl, ⟨u2, rfl, g2⟩, ⟨u3, rfl, g3⟩⟩⟩ := h3
 exact ⟨u1, u2, u3, h4, g1, g2, g3⟩

instance : GoT know_Part := GoT.of (β := Int × Bool × (List ByteArray)) fun x => (x.kind, x.not_, x.words)

theorem El_know_Part_ {A : Nat → Prop} {w : World} {b off : Nat} {x : know_Part} (h : El A w b off x) : El (α := Int × Bool × (List ByteArray)) A w b off (x.kind, x.not_, x.words) := h

theorem El_know_Part_0 {A : Nat → Prop} {w : World} {b off : Nat} {x : know_Part} (h : El A w b off x) : El A w b (off + 0) x.kind := El.fst (El_know_Part_ h)

theorem El_know_Part_1 {A : Nat → Prop} {w : World} {b off : Nat} {x : know_Part} (h : El A w b off x) : El A w b (off + 1) x.not_ := El.fst (El.snd (El_know_Part_ h))

theorem El_know_Part_2 {A : Nat → Prop} {w : World} {b off : Nat} {x : know_Part} (h : El A w b off x) : El A w b (off + 2) x.words := El.snd (El.snd (El_know_Part_ h))

theorem El_know_Part {A : Nat → Prop} {w : World} {b off : Nat} {x : know_Part} (h : El A w b off x) : ∃ v1, At w b off [.int .i64 x.kind, .bool x.not_, v1] ∧ Sl A w v1 x.words := by
 obtain ⟨h1, h2, cs, h3, h4⟩ := h
 obtain ⟨_, _, rfl, rfl, ⟨_, _, rfl, rfl, ⟨u1, rfl, g1⟩⟩⟩ := h3
 exact ⟨u1, h4, g1⟩

instance : GoT know_Query := GoT.of (β := (List know_Part)) fun x => (x.parts)

theorem El_know_Query_ {A : Nat → Prop} {w : World} {b off : Nat} {x : know_Query} (h : El A w b off x) : El (α := (List know_Part)) A w b off (x.parts) := h

theorem El_know_Query_0 {A : Nat → Prop} {w : World} {b off : Nat} {x : know_Query} (h : El A w b off x) : El A w b (off + 0) x.parts := (El_know_Query_ h)

theorem El_know_Query {A : Nat → Prop} {w : World} {b off : Nat} {x : know_Query} (h : El A w b off x) : ∃ v1, At w b off [v1] ∧ Sl A w v1 x.parts := by
 obtain ⟨h1, h2, cs, h3, h4⟩ := h
 obtain ⟨u1, rfl, g1⟩ := h3
 exact ⟨u1, h4, g1⟩

instance : GoT know_Hit := GoT.of (β := Int × Int) fun x => (x.id_, x.score)

instance : Flat know_Hit := ⟨fun {A w A1 w1 cs x} h => Flat.flat (α := Int × Int) (x := (x.id_, x.score)) (A := A) (w := w) h⟩

theorem El_know_Hit_ {A : Nat → Prop} {w : World} {b off : Nat} {x : know_Hit} (h : El A w b off x) : El (α := Int × Int) A w b off (x.id_, x.score) := h

theorem El_know_Hit_0 {A : Nat → Prop} {w : World} {b off : Nat} {x : know_Hit} (h : El A w b off x) : El A w b (off + 0) x.id_ := El.fst (El_know_Hit_ h)

theorem El_know_Hit_1 {A : Nat → Prop} {w : World} {b off : Nat} {x : know_Hit} (h : El A w b off x) : El A w b (off + 1) x.score := El.snd (El_know_Hit_ h)

theorem El_know_Hit {A : Nat → Prop} {w : World} {b off : Nat} {x : know_Hit} (h : El A w b off x) : At w b off [.int .i64 x.id_, .int .i64 x.score] ∧ True := by
 obtain ⟨h1, h2, cs, h3, h4⟩ := h
 obtain ⟨_, _, rfl, rfl, rfl⟩ := h3
 exact ⟨h4, trivial⟩

theorem Rep_know_Hit {A : Nat → Prop} {w : World} {cs : List Value} {x : know_Hit} (h : GoT.rep A w cs x) : cs = [.int .i64 x.id_, .int .i64 x.score] ∧ True := by
 obtain ⟨_, _, rfl, rfl, rfl⟩ := h
 exact ⟨rfl, trivial⟩

section
variable {P : Program} {n : Fr} {ops : Array Oper} {Q : Exit → Act → World → Prop} {E : Env} {w : World} {rest : List Oper} {v : Value} {d : Nat} {ty : TypeId} {pos : String} {af : Array Edge} {x : Operand}
theorem V_mv (hx : ev E x = some v) (hn : Nat.blt d n.sz = true) (h : V P n ops Q rest ((d, v) :: E) w) : V P n ops Q (⟨some d, .move x, ty, pos, af, none⟩ :: rest) E w := V_y (Y_move hx) rfl rfl hn h
theorem V_as (hx : ev E x = some v) (hn : Nat.blt d n.sz = true) (h : V P n ops Q rest ((d, v) :: E) w) : V P n ops Q (⟨some d, .assign x, ty, pos, af, none⟩ :: rest) E w := V_y (Y_assign hx) rfl rfl hn h
end

set_option maxRecDepth 4000 in
set_option maxHeartbeats 4000000 in
theorem know_within_c (w : World) (n : Int) (low : Int) (high : Int) : Ret Tryz.prog 9 #[.int .i64 n, .int .i64 low, .int .i64 high] w fun v w' => v = .bool (know_within n low high) ∧ w = w' := by
 generalize hm : know_within n low high = r
 unfold know_within at hm
 refine enter Tryz.func9 rfl Tryz.ntmps9 rfl ?_
 refine C_seq ?_
 refine C_region ?_
 refine V_as rfl rfl ?_
 refine V_to (fun _ _ => rfl) ?_
 refine C_seq ?_
 refine C_region ?_
 refine V_mv rfl rfl ?_
 refine V_mv rfl rfl ?_
 refine V_y (Y_geq rfl rfl) rfl rfl rfl ?_
 refine V_mv rfl rfl ?_
 refine V_cut 4 (fun _ : Unit => [(14, .bool ((decide (low ≤ n)) && (decide (n ≤ high))))]) (fun _ w' => w = w') ?_ ?_
 ·simp only [List.take, List.drop]
  rcases Bool.eq_false_or_eq_true (decide (low ≤ n)) with hc1 | hc1
  ·refine V_ge rfl rfl rfl hc1 ?_
   refine V_mv rfl rfl ?_
   refine V_ge rfl rfl rfl hc1 ?_
   refine V_mv rfl rfl ?_
   refine V_ge rfl rfl rfl hc1 ?_
   refine V_y (Y_leq rfl rfl) rfl rfl rfl ?_
   refine V_y (Y_pick_te rfl hc1 rfl) rfl rfl rfl ?_
   exact V_end fun a ha => ⟨(), ha.sub ⟨(by rw [hc1]; rfl), trivial⟩, rfl⟩
  ·refine V_gn rfl rfl rfl hc1 rfl rfl rfl ?_
   refine V_gn rfl rfl rfl hc1 rfl rfl rfl ?_
   refine V_gn rfl rfl rfl hc1 rfl rfl rfl ?_
   refine V_y (Y_pick_fe rfl hc1 rfl) rfl rfl rfl ?_
   exact V_end fun a ha => ⟨(), ha.sub ⟨(by rw [hc1]; rfl), trivial⟩, rfl⟩
 simp only [List.take, List.drop]
 rintro _ _ rfl
 refine V_as rfl rfl ?_
 refine V_to (fun _ _ => rfl) ?_
 obtain rfl := hm
 refine C_ret ?_
 try simp only [↓inBlock_ret, ↓then_ret]
 exact retQ rfl (Res.one Tryz.results9 rfl) ⟨rfl, rfl⟩

set_option maxRecDepth 4000 in
set_option maxHeartbeats 4000000 in
theorem know_digit_c (w : World) (c : Int) : Ret Tryz.prog 80 #[.int .u8 c] w fun v w' => v = .bool (know_digit c) ∧ w = w' := by
 generalize hm : know_digit c = r
 unfold know_digit at hm
 refine enter Tryz.func80 rfl Tryz.ntmps80 rfl ?_
 refine C_seq ?_
 refine C_region ?_
 refine V_as rfl rfl ?_
 refine V_to (fun _ _ => rfl) ?_
 refine C_seq ?_
 refine C_region ?_
 refine V_mv rfl rfl ?_
 refine V_y (Y_geq rfl rfl) rfl rfl rfl ?_
 refine V_mv rfl rfl ?_
 refine V_cut 3 (fun _ : Unit => [(8, .bool ((decide ((48 : Int) ≤ c)) && (decide (c ≤ 57))))]) (fun _ w' => w = w') ?_ ?_
 ·simp only [List.take, List.drop]
  rcases Bool.eq_false_or_eq_true (decide ((48 : Int) ≤ c)) with hc1 | hc1
  ·refine V_ge rfl rfl rfl hc1 ?_
   refine V_mv rfl rfl ?_
   refine V_ge rfl rfl rfl hc1 ?_
   refine V_y (Y_leq rfl rfl) rfl rfl rfl ?_
   refine V_y (Y_pick_te rfl hc1 rfl) rfl rfl rfl ?_
   exact V_end fun a ha => ⟨(), ha.sub ⟨(by rw [hc1]; rfl), trivial⟩, rfl⟩
  ·refine V_gn rfl rfl rfl hc1 rfl rfl rfl ?_
   refine V_gn rfl rfl rfl hc1 rfl rfl rfl ?_
   refine V_y (Y_pick_fe rfl hc1 rfl) rfl rfl rfl ?_
   exact V_end fun a ha => ⟨(), ha.sub ⟨(by rw [hc1]; rfl), trivial⟩, rfl⟩
 simp only [List.take, List.drop]
 rintro _ _ rfl
 refine V_as rfl rfl ?_
 refine V_to (fun _ _ => rfl) ?_
 obtain rfl := hm
 refine C_ret ?_
 try simp only [↓inBlock_ret, ↓then_ret]
 exact retQ rfl (Res.one Tryz.results80 rfl) ⟨rfl, rfl⟩

set_option maxRecDepth 4000 in
set_option maxHeartbeats 4000000 in
theorem know_letter_c (w : World) (c : Int) : Ret Tryz.prog 79 #[.int .u8 c] w fun v w' => v = .bool (know_letter c) ∧ w = w' := by
 generalize hm : know_letter c = r
 unfold know_letter at hm
 refine enter Tryz.func79 rfl Tryz.ntmps79 rfl ?_
 refine C_seq ?_
 refine C_region ?_
 refine V_as rfl rfl ?_
 refine V_to (fun _ _ => rfl) ?_
 refine C_seq ?_
 refine C_region ?_
 refine V_mv rfl rfl ?_
 refine V_y (Y_geq rfl rfl) rfl rfl rfl ?_
 refine V_mv rfl rfl ?_
 refine V_cut 3 (fun _ : Unit => [(0, .int .u8 c), (8, .bool ((decide ((97 : Int) ≤ c)) && (decide (c ≤ 122))))]) (fun _ w' => w = w') ?_ ?_
 ·simp only [List.take, List.drop]
  rcases Bool.eq_false_or_eq_true (decide ((97 : Int) ≤ c)) with hc1 | hc1
  ·refine V_ge rfl rfl rfl hc1 ?_
   refine V_mv rfl rfl ?_
   refine V_ge rfl rfl rfl hc1 ?_
   refine V_y (Y_leq rfl rfl) rfl rfl rfl ?_
   refine V_y (Y_pick_te rfl hc1 rfl) rfl rfl rfl ?_
   exact V_end fun a ha => ⟨(), ha.sub ⟨rfl, (by rw [hc1]; rfl), trivial⟩, rfl⟩
  ·refine V_gn rfl rfl rfl hc1 rfl rfl rfl ?_
   refine V_gn rfl rfl rfl hc1 rfl rfl rfl ?_
   refine V_y (Y_pick_fe rfl hc1 rfl) rfl rfl rfl ?_
   exact V_end fun a ha => ⟨(), ha.sub ⟨rfl, (by rw [hc1]; rfl), trivial⟩, rfl⟩
 simp only [List.take, List.drop]
 rintro _ _ rfl
 refine V_mv rfl rfl ?_
 refine V_cut 7 (fun _ : Unit => [(16, .bool (((decide ((97 : Int) ≤ c)) && (decide (c ≤ 122))) || ((decide ((65 : Int) ≤ c)) && (decide (c ≤ 90)))))]) (fun _ w' => w = w') ?_ ?_
 ·simp only [List.take, List.drop]
  rcases Bool.eq_false_or_eq_true (((decide ((97 : Int) ≤ c)) && (decide (c ≤ 122)))) with hc3 | hc3
  ·refine V_gn rfl rfl rfl hc3 rfl rfl rfl ?_
   refine V_gn rfl rfl rfl hc3 rfl rfl rfl ?_
   refine V_gn rfl rfl rfl hc3 rfl rfl rfl ?_
   refine V_gu rfl rfl rfl rfl rfl ?_
   refine V_gu rfl rfl rfl rfl rfl ?_
   refine V_gn rfl rfl rfl hc3 rfl rfl rfl ?_
   refine V_y (Y_pick_te rfl hc3 rfl) rfl rfl rfl ?_
   exact V_end fun a ha => ⟨(), ha.sub ⟨(by rw [hc3]; rfl), trivial⟩, rfl⟩
  ·refine V_ge rfl rfl rfl hc3 ?_
   refine V_mv rfl rfl ?_
   refine V_ge rfl rfl rfl hc3 ?_
   refine V_y (Y_geq rfl rfl) rfl rfl rfl ?_
   refine V_ge rfl rfl rfl hc3 ?_
   refine V_mv rfl rfl ?_
   refine V_cut 3 (fun _ : Unit => [(9, .bool ((decide ((97 : Int) ≤ c)) && (decide (c ≤ 122)))), (15, .bool ((decide ((65 : Int) ≤ c)) && (decide (c ≤ 90))))]) (fun _ w' => w = w') ?_ ?_
   ·simp only [List.take, List.drop]
    rcases Bool.eq_false_or_eq_true (decide ((65 : Int) ≤ c)) with hc5 | hc5
    ·refine V_ge rfl rfl rfl hc5 ?_
     refine V_mv rfl rfl ?_
     refine V_ge rfl rfl rfl hc5 ?_
     refine V_y (Y_leq rfl rfl) rfl rfl rfl ?_
     refine V_ge rfl rfl rfl hc3 ?_
     refine V_y (Y_pick_te rfl hc5 rfl) rfl rfl rfl ?_
     exact V_end fun a ha => ⟨(), ha.sub ⟨rfl, (by rw [hc5]; rfl), trivial⟩, rfl⟩
    ·refine V_gn rfl rfl rfl hc5 rfl rfl rfl ?_
     refine V_gn rfl rfl rfl hc5 rfl rfl rfl ?_
     refine V_ge rfl rfl rfl hc3 ?_
     refine V_y (Y_pick_fe rfl hc5 rfl) rfl rfl rfl ?_
     exact V_end fun a ha => ⟨(), ha.sub ⟨rfl, (by rw [hc5]; rfl), trivial⟩, rfl⟩
   simp only [List.take, List.drop]
   rintro _ _ rfl
   refine V_y (Y_pick_fe rfl hc3 rfl) rfl rfl rfl ?_
   exact V_end fun a ha => ⟨(), ha.sub ⟨(by rw [hc3]; rfl), trivial⟩, rfl⟩
 simp only [List.take, List.drop]
 rintro _ _ rfl
 refine V_as rfl rfl ?_
 refine V_to (fun _ _ => rfl) ?_
 obtain rfl := hm
 refine C_ret ?_
 try simp only [↓inBlock_ret, ↓then_ret]
 exact retQ rfl (Res.one Tryz.results79 rfl) ⟨rfl, rfl⟩

set_option maxRecDepth 4000 in
set_option maxHeartbeats 4000000 in
theorem know_inWord_c (w : World) (c : Int) : Ret Tryz.prog 51 #[.int .u8 c] w fun v w' => v = .bool (know_inWord c) ∧ w = w' := by
 generalize hm : know_inWord c = r
 unfold know_inWord at hm
 refine enter Tryz.func51 rfl Tryz.ntmps51 rfl ?_
 refine C_seq ?_
 refine C_region ?_
 refine V_as rfl rfl ?_
 refine V_to (fun _ _ => rfl) ?_
 refine C_seq ?_
 refine C_region ?_
 refine V_mv rfl rfl ?_
 refine V_call Tryz.call79 rfl rfl rfl rfl (know_letter_c w c) ?_
 rintro _ _ ⟨rfl, rfl⟩
 refine V_mv rfl rfl ?_
 refine V_cut 3 (fun _ : Unit => [(0, .int .u8 c), (8, .bool ((know_letter c) || (know_digit c)))]) (fun _ w' => w = w') ?_ ?_
 ·simp only [List.take, List.drop]
  rcases Bool.eq_false_or_eq_true ((know_letter c)) with hc1 | hc1
  ·refine V_gn rfl rfl rfl hc1 rfl rfl rfl ?_
   refine V_gn rfl rfl rfl hc1 rfl rfl rfl ?_
   refine V_y (Y_pick_te rfl hc1 rfl) rfl rfl rfl ?_
   exact V_end fun a ha => ⟨(), ha.sub ⟨rfl, (by rw [hc1]; rfl), trivial⟩, rfl⟩
  ·refine V_ge rfl rfl rfl hc1 ?_
   refine V_mv rfl rfl ?_
   refine V_ge rfl rfl rfl hc1 ?_
   refine V_call Tryz.call80 rfl rfl rfl rfl (know_digit_c w c) ?_
   rintro _ _ ⟨rfl, rfl⟩
   refine V_y (Y_pick_fe rfl hc1 rfl) rfl rfl rfl ?_
   exact V_end fun a ha => ⟨(), ha.sub ⟨rfl, (by rw [hc1]; rfl), trivial⟩, rfl⟩
 simp only [List.take, List.drop]
 rintro _ _ rfl
 refine V_mv rfl rfl ?_
 refine V_cut 3 (fun _ : Unit => [(12, .bool (((know_letter c) || (know_digit c)) || (decide ((128 : Int) ≤ c))))]) (fun _ w' => w = w') ?_ ?_
 ·simp only [List.take, List.drop]
  rcases Bool.eq_false_or_eq_true (((know_letter c) || (know_digit c))) with hc3 | hc3
  ·refine V_gn rfl rfl rfl hc3 rfl rfl rfl ?_
   refine V_gn rfl rfl rfl hc3 rfl rfl rfl ?_
   refine V_y (Y_pick_te rfl hc3 rfl) rfl rfl rfl ?_
   exact V_end fun a ha => ⟨(), ha.sub ⟨(by rw [hc3]; rfl), trivial⟩, rfl⟩
  ·refine V_ge rfl rfl rfl hc3 ?_
   refine V_mv rfl rfl ?_
   refine V_ge rfl rfl rfl hc3 ?_
   refine V_y (Y_geq rfl rfl) rfl rfl rfl ?_
   refine V_y (Y_pick_fe rfl hc3 rfl) rfl rfl rfl ?_
   exact V_end fun a ha => ⟨(), ha.sub ⟨(by rw [hc3]; rfl), trivial⟩, rfl⟩
 simp only [List.take, List.drop]
 rintro _ _ rfl
 refine V_as rfl rfl ?_
 refine V_to (fun _ _ => rfl) ?_
 obtain rfl := hm
 refine C_ret ?_
 try simp only [↓inBlock_ret, ↓then_ret]
 exact retQ rfl (Res.one Tryz.results51 rfl) ⟨rfl, rfl⟩

set_option maxRecDepth 4000 in
set_option maxHeartbeats 4000000 in
theorem know_lower_c (w : World) {A : Nat → Prop} (hA : ∀ b, w.heap.size ≤ b → A b) (s : ByteArray) {r : ByteArray} (hm : know_lower s = some r) : Ret Tryz.prog 52 #[.string s] w fun v w' => v = .string r ∧ Kp Dw w w' := by
 unfold know_lower at hm
 refine enter Tryz.func52 rfl Tryz.ntmps52 rfl ?_
 have hA0 := hA
 have hB := Nat.le_refl w.heap.size
 have hK : Tr Dw w.heap.size A w A w := Tr.refl (Dw := Dw) hA
 have hH : Hp w.heap.size A w [] := Hp.nil
 refine C_seq ?_
 refine C_region ?_
 refine V_as rfl rfl ?_
 refine V_to (fun _ _ => rfl) ?_
 refine C_seq ?_
 refine C_region ?_
 refine V_mv rfl rfl ?_
 obtain ⟨x1, hx1, hm⟩ := Option.bind_eq_some_iff.1 hm
 refine V_convU (Dw := Dw) (e := 5) hH hx1 Tryz.underlying9 Tryz.underlying95 Tryz.underlying5 hB hA rfl rfl ?_
 intro v2 w3 A4 hH5 ht6
 replace hK := Tr.trans hK ht6
 replace hB := Nat.le_trans hB ht6.ex.size
 replace hA := ht6.new
 replace hH : Hp w.heap.size A4 w3 (obU 5 v2 x1 :: []) := hH5
 refine V_as rfl rfl ?_
 refine V_to (fun _ _ => rfl) ?_
 refine C_seq ?_
 refine C_seq ?_
 refine C_region ?_
 refine V_mv rfl rfl ?_
 refine V_y (Y_lenSl (Hp.anyU (e := 5) (v := v2) (l := x1) hH (i := 0) rfl) rfl Tryz.underlying95 rfl) rfl rfl rfl ?_
 refine V_mv rfl rfl ?_
 refine V_to (fun _ _ => rfl) ?_
 have hn31 := Hp.leU (e := 5) (v := v2) (l := x1) hH (i := 0) rfl
 obtain ⟨o7, ho7, hm⟩ := Option.bind_eq_some_iff.1 hm
 refine C_cutG (ι := ((List UInt8) × Value × (Nat → Prop))) (fun ⟨s8, v14, A16⟩ => [(3, v14)]) (fun ⟨s8, v14, A16⟩ => fun w' => o7 = .fin s8 ∧ Hp w.heap.size A16 w' (obU 5 v14 s8 :: []) ∧ Tr Dw w.heap.size A4 w3 A16 w') ?_ ?_
 ·refine C_block ?_
  refine C_range ho7 (fun k10 s18 a w' => ∃ i : (Value × (Nat → Prop)), Has ⟨30, [], none⟩ a ([(3, i.1), (8, i.1), (9, .int .i64 (x1.length : Int)), (10, .int .i64 (k10 : Int))]) ∧ Hp w.heap.size i.2 w' (obU 5 i.1 s18 :: []) ∧ Tr Dw w.heap.size A4 w3 i.2 w') (fun a ha => ⟨(v2, A4), ha.sub ⟨rfl, rfl, rfl, rfl, trivial⟩, ⟨hH, Tr.refl (Dw := Dw) hA⟩⟩) ?_
  rintro K k10 s18 a w19 ⟨⟨v20, A22⟩, ha74, hH23, hr9⟩ hle27 K30 h29
  refine C_of ?_ ha74
  replace hB := Nat.le_trans hB hr9.ex.size
  replace hA := hr9.new
  replace hH : Hp w.heap.size A22 w19 (obU 5 v20 s18 :: []) := hH23
  refine C_seq (C_region (V_y (Y_lss rfl rfl) rfl rfl rfl (V_to (fun _ _ => rfl) ?_)))
  refine C_seq ?_
  refine C_cond rfl (fun hc32 => ?_) (fun hc32 => ?_)
  ·have hlt28 := lt_of_dec hc32
   obtain ⟨x24, h25, h26⟩ := K30 hlt28
   refine C_skip_to (fun _ _ => rfl) ?_
   refine C_seq ?_
   obtain ⟨s34, ho33, h25⟩ := Option.bind_eq_some_iff.1 h25
   refine C_cutG (ι := (Value × (Nat → Prop))) (fun ⟨v36, A41⟩ => [(3, v36), (8, v36), (9, .int .i64 (x1.length : Int)), (10, .int .i64 (k10 : Int))]) (fun ⟨v36, A41⟩ => fun w' => Hp w.heap.size A41 w' (obU 5 v36 s34 :: []) ∧ Tr Dw w.heap.size A22 w19 A41 w') ?_ ?_
   ·have hr35 : Tr Dw w.heap.size A22 w19 A22 w19 := Tr.refl (Dw := Dw) hA
    refine C_block ?_
    refine C_seq ?_
    refine C_region ?_
    refine V_mv rfl rfl ?_
    obtain ⟨x43, hx43, ho33⟩ := Option.bind_eq_some_iff.1 ho33
    refine V_indexAddrU (e := 5) (v := v20) (l := s18) hH (i := 0) rfl hx43 Tryz.underlying95 Tryz.sizeOf5 rfl rfl rfl ?_
    intro b44 o45 h46 hl47
    refine V_y (Y_load (El.u8 h46) Tryz.isAgg5 rfl) rfl rfl rfl ?_
    refine V_as rfl rfl ?_
    refine V_as rfl rfl ?_
    refine V_to (fun _ _ => rfl) ?_
    refine C_seq ?_
    refine C_region ?_
    refine V_mv rfl rfl ?_
    refine V_y (Y_geq rfl rfl) rfl rfl rfl ?_
    refine V_mv rfl rfl ?_
    refine V_cut 3 (fun _ : Unit => [(3, v20), (4, .int .i64 (k10 : Int)), (5, .int .u8 (x43.toNat : Int)), (8, v20), (9, .int .i64 (x1.length : Int)), (10, .int .i64 (k10 : Int)), (20, .bool ((decide ((65 : Int) ≤ (x43.toNat : Int))) && (decide ((x43.toNat : Int) ≤ 90))))]) (fun _ w' => w19 = w') ?_ ?_
    ·simp only [List.take, List.drop]
     rcases Bool.eq_false_or_eq_true (decide ((65 : Int) ≤ (x43.toNat : Int))) with hc48 | hc48
     ·refine V_ge rfl rfl rfl hc48 ?_
      refine V_mv rfl rfl ?_
      refine V_ge rfl rfl rfl hc48 ?_
      refine V_y (Y_leq rfl rfl) rfl rfl rfl ?_
      refine V_y (Y_pick_te rfl hc48 rfl) rfl rfl rfl ?_
      exact V_end fun a ha => ⟨(), ha.sub ⟨rfl, rfl, rfl, rfl, rfl, rfl, (by rw [hc48]; rfl), trivial⟩, rfl⟩
     ·refine V_gn rfl rfl rfl hc48 rfl rfl rfl ?_
      refine V_gn rfl rfl rfl hc48 rfl rfl rfl ?_
      refine V_y (Y_pick_fe rfl hc48 rfl) rfl rfl rfl ?_
      exact V_end fun a ha => ⟨(), ha.sub ⟨rfl, rfl, rfl, rfl, rfl, rfl, (by rw [hc48]; rfl), trivial⟩, rfl⟩
    simp only [List.take, List.drop]
    rintro _ _ rfl
    refine V_to (fun _ _ => rfl) ?_
    obtain ⟨s51, ho50, ho33⟩ := Option.bind_eq_some_iff.1 ho33
    refine C_cutG (ι := (Value × (Nat → Prop))) (fun ⟨v53, A58⟩ => [(3, v53), (8, v53), (9, .int .i64 (x1.length : Int)), (10, .int .i64 (k10 : Int))]) (fun ⟨v53, A58⟩ => fun w' => Hp w.heap.size A58 w' (obU 5 v53 s51 :: []) ∧ Tr Dw w.heap.size A22 w19 A58 w') ?_ ?_
    ·have hr52 : Tr Dw w.heap.size A22 w19 A22 w19 := Tr.refl (Dw := Dw) hA
     refine C_cond rfl (fun hc60 => ?_) (fun hc60 => ?_)
     ·rw [if_pos hc60] at ho50
      refine C_region ?_
      refine V_mv rfl rfl ?_
      refine V_mv rfl rfl ?_
      refine V_mv rfl rfl ?_
      refine V_y (Y_addB rfl rfl) rfl rfl rfl ?_
      refine V_y (Y_subB rfl rfl) rfl rfl rfl ?_
      refine V_indexAddrU (e := 5) (v := v20) (l := s18) hH (i := 0) rfl hx43 Tryz.underlying95 Tryz.sizeOf5 rfl rfl rfl ?_
      intro b61 o62 h63 hl64
      obtain ⟨x65, hx65, ho50⟩ := Option.bind_eq_some_iff.1 ho50
      refine V_storeU (Dw := Dw) (e := 5) (v := v20) (l := s18) hH (i := 0) rfl hl64 hx65 rfl Tryz.sizeOf5 rfl hB hA rfl rfl ?_
      intro w66 hH67 ht68
      replace hr52 := Tr.trans hr52 ht68
      replace hH : Hp w.heap.size A22 w66 (obU 5 v20 x65 :: []) := hH67
      obtain rfl := Option.some.inj ho50
      refine V_end (fun a ha69 => ?_)
      exact ⟨(v20, A22), ha69.sub ⟨rfl, rfl, rfl, rfl, trivial⟩, ⟨hH, hr52⟩⟩
     ·rw [if_neg (nt hc60)] at ho50
      obtain rfl := Option.some.inj ho50
      refine C_skip (fun a ha70 => ?_)
      exact ⟨(v20, A22), ha70.sub ⟨rfl, rfl, rfl, rfl, trivial⟩, ⟨hH, hr52⟩⟩
    rintro ⟨v53, A58⟩ w55 ⟨hH59, hk56⟩ a ha57
    replace hr35 := Tr.trans hr35 hk56
    replace hA := hk56.new
    replace hH : Hp w.heap.size A58 w55 (obU 5 v53 s51 :: []) := hH59
    obtain rfl := Option.some.inj ho33
    exact ⟨(v53, A58), ha57.sub ⟨rfl, rfl, rfl, rfl, trivial⟩, ⟨hH, hr35⟩⟩
   rintro ⟨v36, A41⟩ w38 ⟨hH42, hk39⟩ a ha40
   replace hr9 := Tr.trans hr9 hk39
   replace hA := hk39.new
   replace hH : Hp w.heap.size A41 w38 (obU 5 v36 s34 :: []) := hH42
   refine C_at (n := ⟨30, [], none⟩) (fun _ _ => rfl) ?_ ha40
   refine C_region ?_
   refine V_y (Y_addI rfl rfl) rfl rfl rfl ?_
   refine V_mv rfl rfl ?_
   obtain rfl := Option.some.inj h25
   refine V_end (fun a ha72 => ?_)
   exact ⟨s34, hlt28, h26, ⟨(v36, A41), ha72.sub ⟨rfl, rfl, rfl, (congrArg (fun z => some (Value.int .i64 z)) (w64_succ hlt28 hn31)), trivial⟩, ⟨hH, hr9⟩⟩⟩
  ·refine C_exit (fun a ha73 => ?_)
   exact ⟨(s18, v20, A22), ha73.sub ⟨rfl, trivial⟩, ⟨(h29 (eq_of_dec hle27 hc32)).symm, hH, hr9⟩⟩
 rintro ⟨s8, v14, A16⟩ w11 ⟨rfl, hH17, hk12⟩ a ha13
 rw [Lp.andThen_fin] at hm
 replace hK := Tr.trans hK hk12
 replace hA := hk12.new
 replace hH : Hp w.heap.size A16 w11 (obU 5 v14 s8 :: []) := hH17
 refine C_at (n := ⟨30, [], none⟩) (fun _ _ => rfl) ?_ ha13
 refine C_seq ?_
 refine C_region ?_
 refine V_mv rfl rfl ?_
 obtain ⟨A75, ht76, h77, hH78⟩ := Hp.freezeU (Dw := Dw) (v := v14) (l := s8) hH (i := 0) rfl hA
 replace hK := Tr.trans hK ht76
 replace hH : Hp w.heap.size A75 w11 ([]) := hH78
 refine V_y (Y_convBS (l := s8) h77 Tryz.underlying95 Tryz.underlying5 Tryz.underlying9 rfl) rfl rfl rfl ?_
 refine V_as rfl rfl ?_
 refine V_to (fun _ _ => rfl) ?_
 obtain rfl := Option.some.inj hm
 refine C_ret ?_
 try simp only [↓inBlock_ret, ↓then_ret]
 exact retQ rfl (Res.one Tryz.results52 rfl) ⟨rfl, hK.kp⟩

set_option maxRecDepth 4000 in
set_option maxHeartbeats 4000000 in
theorem know_Words_c (w : World) {A : Nat → Prop} (hA : ∀ b, w.heap.size ≤ b → A b) (s : ByteArray) {r : (List ByteArray)} (hm : know_Words s = some r) : Ret Tryz.prog 22 #[.string s] w fun v w' => ∃ s0, v = s0 ∧ Ownd 9 w w' s0 r ∧ Kp Dw w w' := by
 unfold know_Words at hm
 refine enter Tryz.func22 rfl Tryz.ntmps22 rfl ?_
 have hA0 := hA
 have hB := Nat.le_refl w.heap.size
 have hK : Tr Dw w.heap.size A w A w := Tr.refl (Dw := Dw) hA
 have hH : Hp w.heap.size A w [] := Hp.nil
 refine C_seq ?_
 refine C_region ?_
 refine V_as rfl rfl ?_
 refine V_to (fun _ _ => rfl) ?_
 refine C_seq ?_
 refine C_region ?_
 refine V_as rfl rfl ?_
 refine V_to (fun _ _ => rfl) ?_
 refine C_seq ?_
 refine C_seq ?_
 refine C_region ?_
 refine V_as rfl rfl ?_
 refine V_to (fun _ _ => rfl) ?_
 replace hH : Hp w.heap.size A w (obS (α := ByteArray) 9 (.slice none 0 0) ([] : (List ByteArray)) :: []) := Hp.addNil (α := ByteArray) (e := 9) hH
 obtain ⟨o1, ho1, hm⟩ := Option.bind_eq_some_iff.1 hm
 refine C_cutG (ι := (((List ByteArray) × Int) × Value × (Nat → Prop))) (fun ⟨s2, v8, A10⟩ => [(3, v8)]) (fun ⟨s2, v8, A10⟩ => fun w' => o1 = .fin s2 ∧ Hp w.heap.size A10 w' (obS (α := ByteArray) 9 v8 s2.1 :: []) ∧ Tr Dw w.heap.size A w A10 w') ?_ ?_
 ·refine C_block ?_
  refine C_while ho1 (fun s12 a w' => ∃ i : (Value × (Nat → Prop)), Has ⟨44, [], none⟩ a ([(0, .string s), (3, i.1), (4, .int .i64 s12.2)]) ∧ Hp w.heap.size i.2 w' (obS (α := ByteArray) 9 i.1 s12.1 :: []) ∧ Tr Dw w.heap.size A w i.2 w') (fun a ha => ⟨(.slice none 0 0, A), ha.sub ⟨rfl, rfl, rfl, trivial⟩, ⟨hH, Tr.refl (Dw := Dw) hA⟩⟩) ?_
  rintro K s12 a w13 ⟨⟨v14, A16⟩, ha83, hH17, hr3⟩ K24
  refine C_of ?_ ha83
  replace hB := Nat.le_trans hB hr3.ex.size
  replace hA := hr3.new
  replace hH : Hp w.heap.size A16 w13 (obS (α := ByteArray) 9 v14 s12.1 :: []) := hH17
  obtain ⟨x18, h19, h20⟩ := K24
  refine C_seq ?_
  refine C_seq ?_
  refine C_region ?_
  refine V_mv rfl rfl ?_
  refine V_mv rfl rfl ?_
  refine V_y (Y_lenStr rfl Tryz.underlying9 rfl) rfl rfl rfl ?_
  refine V_y (Y_lss rfl rfl) rfl rfl rfl ?_
  refine V_to (fun _ _ => rfl) ?_
  refine C_cond rfl (fun hc25 => ?_) (fun hc25 => ?_)
  ·rw [if_pos hc25] at h19
   refine C_skip_to (fun _ _ => rfl) ?_
   refine C_seq ?_
   refine C_block ?_
   refine C_seq ?_
   refine C_region ?_
   refine V_mv rfl rfl ?_
   refine V_as rfl rfl ?_
   refine V_to (fun _ _ => rfl) ?_
   refine C_seq ?_
   obtain ⟨o26, ho26, h19⟩ := Option.bind_eq_some_iff.1 h19
   refine C_cutG (ι := Int) (fun (s27 : Int) => [(0, .string s), (3, v14), (4, .int .i64 s12.2), (5, .int .i64 s27)]) (fun (s27 : Int) => fun w' => o26 = .fin s27 ∧ w13 = w') ?_ ?_
   ·refine C_block ?_
    refine C_while ho26 (fun s33 a w' => ∃ i : Unit, Has ⟨44, [], none⟩ a ([(0, .string s), (3, v14), (4, .int .i64 s12.2), (5, .int .i64 s33)]) ∧ w13 = w') (fun a ha => ⟨(), ha.sub ⟨rfl, rfl, rfl, rfl, trivial⟩, rfl⟩) ?_
    rintro K s33 a _ ⟨_, ha48, rfl⟩ K41
    refine C_of ?_ ha48
    obtain ⟨x35, h36, h37⟩ := K41
    refine C_seq ?_
    refine C_seq ?_
    refine C_region ?_
    refine V_mv rfl rfl ?_
    refine V_mv rfl rfl ?_
    refine V_y (Y_lenStr rfl Tryz.underlying9 rfl) rfl rfl rfl ?_
    refine V_y (Y_lss rfl rfl) rfl rfl rfl ?_
    refine V_mv rfl rfl ?_
    obtain ⟨s43, hs43, h36⟩ := Option.bind_eq_some_iff.1 h36
    refine V_cut 5 (fun _ : Unit => [(0, .string s), (3, v14), (4, .int .i64 s12.2), (5, .int .i64 s33), (22, .bool s43)]) (fun _ w' => w13 = w') ?_ ?_
    ·simp only [List.take, List.drop]
     rcases Bool.eq_false_or_eq_true (decide (s33 < (s.size : Int))) with hc42 | hc42
     ·rw [if_pos hc42] at hs43
      refine V_ge rfl rfl rfl hc42 ?_
      refine V_mv rfl rfl ?_
      refine V_ge rfl rfl rfl hc42 ?_
      refine V_mv rfl rfl ?_
      refine V_ge rfl rfl rfl hc42 ?_
      obtain ⟨x44, hx44, hs43⟩ := Option.bind_eq_some_iff.1 hs43
      refine V_y (Y_indexS hx44 Tryz.underlying9 rfl rfl) rfl rfl rfl ?_
      refine V_ge rfl rfl rfl hc42 ?_
      refine V_call Tryz.call51 rfl rfl rfl rfl (know_inWord_c w13 (x44.toNat : Int)) ?_
      rintro _ _ ⟨rfl, rfl⟩
      refine V_y (Y_pick_te rfl hc42 rfl) rfl rfl rfl ?_
      obtain rfl := Option.some.inj hs43
      exact V_end fun a ha => ⟨(), ha.sub ⟨rfl, rfl, rfl, rfl, rfl, trivial⟩, rfl⟩
     ·rw [if_neg (nt hc42)] at hs43
      refine V_gn rfl rfl rfl hc42 rfl rfl rfl ?_
      refine V_gn rfl rfl rfl hc42 rfl rfl rfl ?_
      refine V_gn rfl rfl rfl hc42 rfl rfl rfl ?_
      refine V_gn rfl rfl rfl hc42 rfl rfl rfl ?_
      refine V_y (Y_pick_fe rfl hc42 rfl) rfl rfl rfl ?_
      obtain rfl := Option.some.inj hs43
      exact V_end fun a ha => ⟨(), ha.sub ⟨rfl, rfl, rfl, rfl, rfl, trivial⟩, rfl⟩
    simp only [List.take, List.drop]
    rintro _ _ rfl
    refine V_to (fun _ _ => rfl) ?_
    refine C_cond rfl (fun hc45 => ?_) (fun hc45 => ?_)
    ·rw [if_pos hc45] at h36
     refine C_skip_to (fun _ _ => rfl) ?_
     refine C_block ?_
     refine C_region ?_
     refine V_mv rfl rfl ?_
     refine V_y (Y_addI rfl rfl) rfl rfl rfl ?_
     refine V_as rfl rfl ?_
     obtain rfl := Option.some.inj h36
     refine V_end (fun a ha46 => ?_)
     exact ⟨w64 (s33 + 1), h37, ⟨(), ha46.sub ⟨rfl, rfl, rfl, rfl, trivial⟩, rfl⟩⟩
    ·rw [if_neg (nt hc45)] at h36
     obtain rfl := Option.some.inj h36
     refine C_exit (fun a ha47 => ?_)
     exact ⟨s33, ha47.sub ⟨rfl, rfl, rfl, rfl, trivial⟩, ⟨h37.symm, rfl⟩⟩
   rintro s27 _ ⟨rfl, rfl⟩ a ha32
   rw [Lp.andThen_fin] at h19
   refine C_at (n := ⟨44, [], none⟩) (fun _ _ => rfl) ?_ ha32
   refine C_seq ?_
   refine C_seq ?_
   refine C_region ?_
   refine V_mv rfl rfl ?_
   refine V_mv rfl rfl ?_
   refine V_y (Y_gtr rfl rfl) rfl rfl rfl ?_
   refine V_mv rfl rfl ?_
   refine V_cut 5 (fun _ : Unit => [(0, .string s), (3, v14), (4, .int .i64 s12.2), (5, .int .i64 s27), (33, .bool ((decide (s12.2 < s27)) && (decide ((w64 (s27 - s12.2)) ≤ 30))))]) (fun _ w' => w13 = w') ?_ ?_
   ·simp only [List.take, List.drop]
    rcases Bool.eq_false_or_eq_true (decide (s12.2 < s27)) with hc49 | hc49
    ·refine V_ge rfl rfl rfl hc49 ?_
     refine V_mv rfl rfl ?_
     refine V_ge rfl rfl rfl hc49 ?_
     refine V_mv rfl rfl ?_
     refine V_ge rfl rfl rfl hc49 ?_
     refine V_y (Y_subI rfl rfl) rfl rfl rfl ?_
     refine V_ge rfl rfl rfl hc49 ?_
     refine V_y (Y_leq rfl rfl) rfl rfl rfl ?_
     refine V_y (Y_pick_te rfl hc49 rfl) rfl rfl rfl ?_
     exact V_end fun a ha => ⟨(), ha.sub ⟨rfl, rfl, rfl, rfl, (by rw [hc49]; rfl), trivial⟩, rfl⟩
    ·refine V_gn rfl rfl rfl hc49 rfl rfl rfl ?_
     refine V_gn rfl rfl rfl hc49 rfl rfl rfl ?_
     refine V_gn rfl rfl rfl hc49 rfl rfl rfl ?_
     refine V_gn rfl rfl rfl hc49 rfl rfl rfl ?_
     refine V_y (Y_pick_fe rfl hc49 rfl) rfl rfl rfl ?_
     exact V_end fun a ha => ⟨(), ha.sub ⟨rfl, rfl, rfl, rfl, (by rw [hc49]; rfl), trivial⟩, rfl⟩
   simp only [List.take, List.drop]
   rintro _ _ rfl
   refine V_to (fun _ _ => rfl) ?_
   obtain ⟨s52, ho51, h19⟩ := Option.bind_eq_some_iff.1 h19
   refine C_cutG (ι := (Value × (Nat → Prop))) (fun ⟨v54, A59⟩ => [(0, .string s), (3, v54), (5, .int .i64 s27)]) (fun ⟨v54, A59⟩ => fun w' => Hp w.heap.size A59 w' (obS (α := ByteArray) 9 v54 s52 :: []) ∧ Tr Dw w.heap.size A16 w13 A59 w') ?_ ?_
   ·have hr53 : Tr Dw w.heap.size A16 w13 A16 w13 := Tr.refl (Dw := Dw) hA
    refine C_cond rfl (fun hc61 => ?_) (fun hc61 => ?_)
    ·rw [if_pos hc61] at ho51
     refine C_region ?_
     refine V_mv rfl rfl ?_
     refine V_mv rfl rfl ?_
     refine V_mv rfl rfl ?_
     refine V_mv rfl rfl ?_
     obtain ⟨x62, hx62, ho51⟩ := Option.bind_eq_some_iff.1 ho51
     refine V_y (Y_sliceSLH hx62 Tryz.underlying9 rfl rfl rfl) rfl rfl rfl ?_
     obtain ⟨x63, hx63, ho51⟩ := Option.bind_eq_some_iff.1 ho51
     refine V_call Tryz.call52 rfl rfl rfl rfl (know_lower_c (Dw := Dw) w13 hA x62 hx63) ?_
     rintro _ w65 ⟨rfl, hk66⟩
     have ht67 := Kp.tr hk66 hA hB
     replace hH := Hp.kp hH hk66
     replace hr53 := Tr.trans hr53 ht67
     replace hB := Nat.le_trans hB ht67.ex.size
     replace hA := ht67.new
     refine V_buildSlice (Dw := Dw) (l := ([x63] : List ByteArray)) (len := 1) Tryz.underlying42 Tryz.sizeOf9 Tryz.zeroValue9 rfl (by with_unfolding_all rfl) (show (1 * 1 : Nat) ≠ 0 by decide) (show (1 * 1 : Nat) ≤ 2 ^ 24 by decide) hA ⟨[.string x63], _, rfl, rfl, rfl⟩ rfl rfl ?_
     intro v68 w69 hk71 h70
     have ht72 := Kp.tr hk71 hA hB
     replace hH := Hp.kp hH hk71
     replace hr53 := Tr.trans hr53 ht72
     replace hB := Nat.le_trans hB ht72.ex.size
     replace hA := ht72.new
     obtain ⟨x73, hx73, ho51⟩ := Option.bind_eq_some_iff.1 ho51
     refine V_appendH (Dw := Dw) (e := 9) (v := v14) (l := s12.1) (ti := Tryz.t9) (bytes := 16) (lim := 8796093022208) hH (i := 0) rfl h70 hx73 Tryz.underlying42 Tryz_info9 rfl rfl rfl rfl (by decide) (by decide) (by decide) hB hA rfl rfl rfl ?_
     intro v74 w75 A76 hH77 ht78
     replace hr53 := Tr.trans hr53 ht78
     replace hH : Hp w.heap.size A76 w75 (obS (α := ByteArray) 9 v74 x73 :: []) := hH77
     refine V_as rfl rfl ?_
     obtain rfl := Option.some.inj ho51
     refine V_end (fun a ha79 => ?_)
     exact ⟨(v74, A76), ha79.sub ⟨rfl, rfl, rfl, trivial⟩, ⟨hH, hr53⟩⟩
    ·rw [if_neg (nt hc61)] at ho51
     obtain rfl := Option.some.inj ho51
     refine C_skip (fun a ha80 => ?_)
     exact ⟨(v14, A16), ha80.sub ⟨rfl, rfl, rfl, trivial⟩, ⟨hH, hr53⟩⟩
   rintro ⟨v54, A59⟩ w56 ⟨hH60, hk57⟩ a ha58
   replace hr3 := Tr.trans hr3 hk57
   replace hA := hk57.new
   replace hH : Hp w.heap.size A59 w56 (obS (α := ByteArray) 9 v54 s52 :: []) := hH60
   refine C_at (n := ⟨44, [], none⟩) (fun _ _ => rfl) ?_ ha58
   refine C_region ?_
   refine V_mv rfl rfl ?_
   refine V_as rfl rfl ?_
   refine V_to (fun _ _ => rfl) ?_
   refine C_region ?_
   refine V_mv rfl rfl ?_
   refine V_y (Y_addI rfl rfl) rfl rfl rfl ?_
   refine V_as rfl rfl ?_
   obtain rfl := Option.some.inj h19
   refine V_end (fun a ha81 => ?_)
   exact ⟨(s52, w64 (s27 + 1)), h20, ⟨(v54, A59), ha81.sub ⟨rfl, rfl, rfl, trivial⟩, ⟨hH, hr3⟩⟩⟩
  ·rw [if_neg (nt hc25)] at h19
   obtain rfl := Option.some.inj h19
   refine C_exit (fun a ha82 => ?_)
   exact ⟨((s12.1, s12.2), v14, A16), ha82.sub ⟨rfl, trivial⟩, ⟨h20.symm, hH, hr3⟩⟩
 rintro ⟨s2, v8, A10⟩ w5 ⟨rfl, hH11, hk6⟩ a ha7
 rw [Lp.andThen_fin] at hm
 replace hK := Tr.trans hK hk6
 replace hA := hk6.new
 replace hH : Hp w.heap.size A10 w5 (obS (α := ByteArray) 9 v8 s2.1 :: []) := hH11
 refine C_at (n := ⟨44, [], none⟩) (fun _ _ => rfl) ?_ ha7
 refine C_seq ?_
 refine C_region ?_
 refine V_mv rfl rfl ?_
 refine V_as rfl rfl ?_
 refine V_to (fun _ _ => rfl) ?_
 obtain rfl := Option.some.inj hm
 refine C_ret ?_
 try simp only [↓inBlock_ret, ↓then_ret]
 exact retQ rfl (Res.one Tryz.results22 rfl) ⟨v8, rfl, (Hp.ownd hH (i := 0) rfl), hK.kp⟩

set_option maxRecDepth 4000 in
set_option maxHeartbeats 4000000 in
theorem cmp_isNaN_int_c (w : World) (x : Int) : Ret Tryz.prog 73 #[.int .i64 x] w fun v w' => v = .bool (cmp_isNaN_int x) ∧ w = w' := by
 generalize hm : cmp_isNaN_int x = r
 unfold cmp_isNaN_int at hm
 refine enter Tryz.func73 rfl Tryz.ntmps73 rfl ?_
 refine C_seq ?_
 refine C_region ?_
 refine V_as rfl rfl ?_
 refine V_to (fun _ _ => rfl) ?_
 refine C_seq ?_
 refine C_region ?_
 refine V_mv rfl rfl ?_
 refine V_mv rfl rfl ?_
 refine V_y (Y_neq rfl rfl) rfl rfl rfl ?_
 refine V_as rfl rfl ?_
 refine V_to (fun _ _ => rfl) ?_
 obtain rfl := hm
 refine C_ret ?_
 try simp only [↓inBlock_ret, ↓then_ret]
 exact retQ rfl (Res.one Tryz.results73 rfl) ⟨rfl, rfl⟩

set_option maxRecDepth 4000 in
set_option maxHeartbeats 4000000 in
theorem cmp_Less_int_c (w : World) (x : Int) (y : Int) : Ret Tryz.prog 81 #[.int .i64 x, .int .i64 y] w fun v w' => v = .bool (cmp_Less_int x y) ∧ w = w' := by
 generalize hm : cmp_Less_int x y = r
 unfold cmp_Less_int at hm
 refine enter Tryz.func81 rfl Tryz.ntmps81 rfl ?_
 refine C_seq ?_
 refine C_region ?_
 refine V_as rfl rfl ?_
 refine V_to (fun _ _ => rfl) ?_
 refine C_seq ?_
 refine C_region ?_
 refine V_mv rfl rfl ?_
 refine V_call Tryz.call73 rfl rfl rfl rfl (cmp_isNaN_int_c w x) ?_
 rintro _ _ ⟨rfl, rfl⟩
 refine V_mv rfl rfl ?_
 refine V_cut 4 (fun _ : Unit => [(0, .int .i64 x), (1, .int .i64 y), (11, .bool ((cmp_isNaN_int x) && (!(cmp_isNaN_int y))))]) (fun _ w' => w = w') ?_ ?_
 ·simp only [List.take, List.drop]
  rcases Bool.eq_false_or_eq_true ((cmp_isNaN_int x)) with hc1 | hc1
  ·refine V_ge rfl rfl rfl hc1 ?_
   refine V_mv rfl rfl ?_
   refine V_ge rfl rfl rfl hc1 ?_
   refine V_call Tryz.call73 rfl rfl rfl rfl (cmp_isNaN_int_c w y) ?_
   rintro _ _ ⟨rfl, rfl⟩
   refine V_ge rfl rfl rfl hc1 ?_
   refine V_y (Y_not rfl) rfl rfl rfl ?_
   refine V_y (Y_pick_te rfl hc1 rfl) rfl rfl rfl ?_
   exact V_end fun a ha => ⟨(), ha.sub ⟨rfl, rfl, (by rw [hc1]; rfl), trivial⟩, rfl⟩
  ·refine V_gn rfl rfl rfl hc1 rfl rfl rfl ?_
   refine V_gn rfl rfl rfl hc1 rfl rfl rfl ?_
   refine V_gn rfl rfl rfl hc1 rfl rfl rfl ?_
   refine V_y (Y_pick_fe rfl hc1 rfl) rfl rfl rfl ?_
   exact V_end fun a ha => ⟨(), ha.sub ⟨rfl, rfl, (by rw [hc1]; rfl), trivial⟩, rfl⟩
 simp only [List.take, List.drop]
 rintro _ _ rfl
 refine V_mv rfl rfl ?_
 refine V_cut 4 (fun _ : Unit => [(16, .bool (((cmp_isNaN_int x) && (!(cmp_isNaN_int y))) || (decide (x < y))))]) (fun _ w' => w = w') ?_ ?_
 ·simp only [List.take, List.drop]
  rcases Bool.eq_false_or_eq_true (((cmp_isNaN_int x) && (!(cmp_isNaN_int y)))) with hc3 | hc3
  ·refine V_gn rfl rfl rfl hc3 rfl rfl rfl ?_
   refine V_gn rfl rfl rfl hc3 rfl rfl rfl ?_
   refine V_gn rfl rfl rfl hc3 rfl rfl rfl ?_
   refine V_y (Y_pick_te rfl hc3 rfl) rfl rfl rfl ?_
   exact V_end fun a ha => ⟨(), ha.sub ⟨(by rw [hc3]; rfl), trivial⟩, rfl⟩
  ·refine V_ge rfl rfl rfl hc3 ?_
   refine V_mv rfl rfl ?_
   refine V_ge rfl rfl rfl hc3 ?_
   refine V_mv rfl rfl ?_
   refine V_ge rfl rfl rfl hc3 ?_
   refine V_y (Y_lss rfl rfl) rfl rfl rfl ?_
   refine V_y (Y_pick_fe rfl hc3 rfl) rfl rfl rfl ?_
   exact V_end fun a ha => ⟨(), ha.sub ⟨(by rw [hc3]; rfl), trivial⟩, rfl⟩
 simp only [List.take, List.drop]
 rintro _ _ rfl
 refine V_as rfl rfl ?_
 refine V_to (fun _ _ => rfl) ?_
 obtain rfl := hm
 refine C_ret ?_
 try simp only [↓inBlock_ret, ↓then_ret]
 exact retQ rfl (Res.one Tryz.results81 rfl) ⟨rfl, rfl⟩

set_option maxRecDepth 4000 in
set_option maxHeartbeats 4000000 in
theorem slices_isNaN_int_c (w : World) (x : Int) : Ret Tryz.prog 82 #[.int .i64 x] w fun v w' => v = .bool (slices_isNaN_int x) ∧ w = w' := by
 generalize hm : slices_isNaN_int x = r
 unfold slices_isNaN_int at hm
 refine enter Tryz.func82 rfl Tryz.ntmps82 rfl ?_
 refine C_seq ?_
 refine C_region ?_
 refine V_as rfl rfl ?_
 refine V_to (fun _ _ => rfl) ?_
 refine C_seq ?_
 refine C_region ?_
 refine V_mv rfl rfl ?_
 refine V_mv rfl rfl ?_
 refine V_y (Y_neq rfl rfl) rfl rfl rfl ?_
 refine V_as rfl rfl ?_
 refine V_to (fun _ _ => rfl) ?_
 obtain rfl := hm
 refine C_ret ?_
 try simp only [↓inBlock_ret, ↓then_ret]
 exact retQ rfl (Res.one Tryz.results82 rfl) ⟨rfl, rfl⟩

set_option maxRecDepth 4000 in
set_option maxHeartbeats 4000000 in
theorem slices_BinarySearch_Lint_int_c (w : World) {A : Nat → Prop} (x : (List Int)) (v_x : Value) (h_x : Sl A w v_x x) (target : Int) {r : (Int × Bool)} (hm : slices_BinarySearch_Lint_int x target = some r) : Ret Tryz.prog 53 #[v_x, .int .i64 target] w fun v w' => v = .tuple #[.int .i64 r.1, .bool r.2] ∧ w = w' := by
 unfold slices_BinarySearch_Lint_int at hm
 refine enter Tryz.func53 rfl Tryz.ntmps53 rfl ?_
 refine C_seq ?_
 refine C_region ?_
 refine V_as rfl rfl ?_
 refine V_as rfl rfl ?_
 refine V_to (fun _ _ => rfl) ?_
 refine C_seq ?_
 refine C_region ?_
 refine V_mv rfl rfl ?_
 refine V_y (Y_lenSl h_x rfl Tryz.underlying22 rfl) rfl rfl rfl ?_
 refine V_as rfl rfl ?_
 refine V_to (fun _ _ => rfl) ?_
 refine C_seq ?_
 refine C_region ?_
 refine V_mv rfl rfl ?_
 refine V_as rfl rfl ?_
 refine V_as rfl rfl ?_
 refine V_to (fun _ _ => rfl) ?_
 refine C_seq ?_
 obtain ⟨o3, ho3, hm⟩ := Option.bind_eq_some_iff.1 hm
 refine C_cutG (ι := (Int × Int)) (fun (s4 : (Int × Int)) => [(0, v_x), (1, .int .i64 target), (6, .int .i64 (x.length : Int)), (7, .int .i64 s4.1)]) (fun (s4 : (Int × Int)) => fun w' => o3 = .fin s4 ∧ w = w') ?_ ?_
 ·refine C_block ?_
  refine C_while ho3 (fun s10 a w' => ∃ i : Unit, Has ⟨54, [], none⟩ a ([(0, v_x), (1, .int .i64 target), (6, .int .i64 (x.length : Int)), (7, .int .i64 s10.1), (8, .int .i64 s10.2)]) ∧ w = w') (fun a ha => ⟨(), ha.sub ⟨rfl, rfl, rfl, rfl, rfl, trivial⟩, rfl⟩) ?_
  rintro K s10 a _ ⟨_, ha43, rfl⟩ K18
  refine C_of ?_ ha43
  obtain ⟨x12, h13, h14⟩ := K18
  refine C_seq ?_
  refine C_seq ?_
  refine C_region ?_
  refine V_mv rfl rfl ?_
  refine V_mv rfl rfl ?_
  refine V_y (Y_lss rfl rfl) rfl rfl rfl ?_
  refine V_to (fun _ _ => rfl) ?_
  refine C_cond rfl (fun hc19 => ?_) (fun hc19 => ?_)
  ·rw [if_pos hc19] at h13
   refine C_skip_to (fun _ _ => rfl) ?_
   obtain ⟨s21, ho20, h13⟩ := Option.bind_eq_some_iff.1 h13
   refine C_cutG (ι := Unit) (fun (_ : Unit) => [(0, v_x), (1, .int .i64 target), (6, .int .i64 (x.length : Int)), (7, .int .i64 s21.1), (8, .int .i64 s21.2)]) (fun (_ : Unit) => fun w' => w = w') ?_ ?_
   ·refine C_block ?_
    refine C_seq ?_
    refine C_region ?_
    refine V_mv rfl rfl ?_
    refine V_mv rfl rfl ?_
    refine V_y (Y_addI rfl rfl) rfl rfl rfl ?_
    refine V_y (Y_convI Tryz.underlying3 Tryz.underlying74 rfl) rfl rfl rfl ?_
    obtain ⟨x26, hx26, ho20⟩ := Option.bind_eq_some_iff.1 ho20
    refine V_y (Y_shr hx26 rfl rfl) rfl rfl rfl ?_
    refine V_y (Y_convI Tryz.underlying74 Tryz.underlying3 rfl) rfl rfl rfl ?_
    refine V_as rfl rfl ?_
    refine V_to (fun _ _ => rfl) ?_
    refine C_seq ?_
    refine C_region ?_
    refine V_mv rfl rfl ?_
    refine V_mv rfl rfl ?_
    obtain ⟨x27, hx27, ho20⟩ := Option.bind_eq_some_iff.1 ho20
    refine V_indexAddr h_x hx27 Tryz.underlying22 Tryz.sizeOf3 rfl rfl rfl ?_
    intro b28 o29 h30
    refine V_y (Y_load (El.int h30) Tryz.isAgg3 rfl) rfl rfl rfl ?_
    refine V_mv rfl rfl ?_
    refine V_call Tryz.call81 rfl rfl rfl rfl (cmp_Less_int_c w x27 target) ?_
    rintro _ _ ⟨rfl, rfl⟩
    refine V_to (fun _ _ => rfl) ?_
    obtain ⟨s32, ho31, ho20⟩ := Option.bind_eq_some_iff.1 ho20
    refine C_cutG (ι := Unit) (fun (_ : Unit) => [(0, v_x), (1, .int .i64 target), (6, .int .i64 (x.length : Int)), (7, .int .i64 s32.1), (8, .int .i64 s32.2)]) (fun (_ : Unit) => fun w' => w = w') ?_ ?_
    ·refine C_cond rfl (fun hc37 => ?_) (fun hc37 => ?_)
     ·rw [if_pos hc37] at ho31
      refine C_region ?_
      refine V_mv rfl rfl ?_
      refine V_y (Y_addI rfl rfl) rfl rfl rfl ?_
      refine V_as rfl rfl ?_
      obtain rfl := Option.some.inj ho31
      refine V_end (fun a ha38 => ?_)
      exact ⟨(), ha38.sub ⟨rfl, rfl, rfl, rfl, rfl, trivial⟩, rfl⟩
     ·rw [if_neg (nt hc37)] at ho31
      refine C_region ?_
      refine V_mv rfl rfl ?_
      refine V_as rfl rfl ?_
      obtain rfl := Option.some.inj ho31
      refine V_end (fun a ha39 => ?_)
      exact ⟨(), ha39.sub ⟨rfl, rfl, rfl, rfl, rfl, trivial⟩, rfl⟩
    rintro _ _ rfl a ha36
    obtain rfl := Option.some.inj ho20
    exact ⟨(), ha36.sub ⟨rfl, rfl, rfl, rfl, rfl, trivial⟩, rfl⟩
   rintro _ _ rfl a ha25
   obtain rfl := Option.some.inj h13
   exact ⟨(s21.1, s21.2), h14, ⟨(), ha25.sub ⟨rfl, rfl, rfl, rfl, rfl, trivial⟩, rfl⟩⟩
  ·rw [if_neg (nt hc19)] at h13
   obtain rfl := Option.some.inj h13
   refine C_exit (fun a ha42 => ?_)
   exact ⟨(s10.1, s10.2), ha42.sub ⟨rfl, rfl, rfl, rfl, trivial⟩, ⟨h14.symm, rfl⟩⟩
 rintro s4 _ ⟨rfl, rfl⟩ a ha9
 rw [Lp.andThen_fin] at hm
 refine C_at (n := ⟨54, [], none⟩) (fun _ _ => rfl) ?_ ha9
 refine C_seq ?_
 refine C_region ?_
 refine V_mv rfl rfl ?_
 refine V_mv rfl rfl ?_
 refine V_mv rfl rfl ?_
 refine V_y (Y_lss rfl rfl) rfl rfl rfl ?_
 refine V_mv rfl rfl ?_
 obtain ⟨s45, hs45, hm⟩ := Option.bind_eq_some_iff.1 hm
 refine V_cut 18 (fun _ : Unit => [(31, .int .i64 s4.1), (53, .bool s45)]) (fun _ w' => w = w') ?_ ?_
 ·simp only [List.take, List.drop]
  rcases Bool.eq_false_or_eq_true (decide (s4.1 < (x.length : Int))) with hc44 | hc44
  ·rw [if_pos hc44] at hs45
   refine V_ge rfl rfl rfl hc44 ?_
   refine V_mv rfl rfl ?_
   refine V_ge rfl rfl rfl hc44 ?_
   refine V_mv rfl rfl ?_
   refine V_ge rfl rfl rfl hc44 ?_
   obtain ⟨x46, hx46, hs45⟩ := Option.bind_eq_some_iff.1 hs45
   refine V_indexAddr h_x hx46 Tryz.underlying22 Tryz.sizeOf3 rfl rfl rfl ?_
   intro b47 o48 h49
   refine V_ge rfl rfl rfl hc44 ?_
   refine V_y (Y_load (El.int h49) Tryz.isAgg3 rfl) rfl rfl rfl ?_
   refine V_ge rfl rfl rfl hc44 ?_
   refine V_mv rfl rfl ?_
   refine V_ge rfl rfl rfl hc44 ?_
   refine V_y (Y_eql rfl rfl) rfl rfl rfl ?_
   refine V_ge rfl rfl rfl hc44 ?_
   refine V_mv rfl rfl ?_
   obtain ⟨s51, hs51, hs45⟩ := Option.bind_eq_some_iff.1 hs45
   refine V_cut 10 (fun _ : Unit => [(31, .int .i64 s4.1), (35, .bool (decide (s4.1 < (x.length : Int)))), (52, .bool s51)]) (fun _ w' => w = w') ?_ ?_
   ·simp only [List.take, List.drop]
    rcases Bool.eq_false_or_eq_true (x46 == target) with hc50 | hc50
    ·rw [if_pos hc50] at hs51
     refine V_gn rfl rfl rfl hc50 rfl rfl rfl ?_
     refine V_gn rfl rfl rfl hc50 rfl rfl rfl ?_
     refine V_gn rfl rfl rfl hc50 rfl rfl rfl ?_
     refine V_gn rfl rfl rfl hc50 rfl rfl rfl ?_
     refine V_gn rfl rfl rfl hc50 rfl rfl rfl ?_
     refine V_gn rfl rfl rfl hc50 rfl rfl rfl ?_
     refine V_gu rfl rfl rfl rfl rfl ?_
     refine V_gu rfl rfl rfl rfl rfl ?_
     refine V_gn rfl rfl rfl hc50 rfl rfl rfl ?_
     refine V_ge rfl rfl rfl hc44 ?_
     refine V_y (Y_pick_te rfl hc50 rfl) rfl rfl rfl ?_
     obtain rfl := Option.some.inj hs51
     exact V_end fun a ha => ⟨(), ha.sub ⟨rfl, rfl, rfl, trivial⟩, rfl⟩
    ·rw [if_neg (nt hc50)] at hs51
     refine V_ge rfl rfl rfl hc50 ?_
     refine V_mv rfl rfl ?_
     refine V_ge rfl rfl rfl hc50 ?_
     refine V_mv rfl rfl ?_
     refine V_ge rfl rfl rfl hc50 ?_
     refine V_indexAddr h_x hx46 Tryz.underlying22 Tryz.sizeOf3 rfl rfl rfl ?_
     intro b52 o53 h54
     refine V_ge rfl rfl rfl hc50 ?_
     refine V_y (Y_load (El.int h54) Tryz.isAgg3 rfl) rfl rfl rfl ?_
     refine V_ge rfl rfl rfl hc50 ?_
     refine V_call Tryz.call82 rfl rfl rfl rfl (slices_isNaN_int_c w x46) ?_
     rintro _ _ ⟨rfl, rfl⟩
     refine V_ge rfl rfl rfl hc50 ?_
     refine V_mv rfl rfl ?_
     refine V_cut 3 (fun _ : Unit => [(31, .int .i64 s4.1), (35, .bool (decide (s4.1 < (x.length : Int)))), (42, .bool (x46 == target)), (51, .bool ((slices_isNaN_int x46) && (slices_isNaN_int target)))]) (fun _ w' => w = w') ?_ ?_
     ·simp only [List.take, List.drop]
      rcases Bool.eq_false_or_eq_true ((slices_isNaN_int x46)) with hc55 | hc55
      ·refine V_ge rfl rfl rfl hc55 ?_
       refine V_mv rfl rfl ?_
       refine V_ge rfl rfl rfl hc55 ?_
       refine V_call Tryz.call82 rfl rfl rfl rfl (slices_isNaN_int_c w target) ?_
       rintro _ _ ⟨rfl, rfl⟩
       refine V_ge rfl rfl rfl hc50 ?_
       refine V_y (Y_pick_te rfl hc55 rfl) rfl rfl rfl ?_
       exact V_end fun a ha => ⟨(), ha.sub ⟨rfl, rfl, rfl, (by rw [hc55]; rfl), trivial⟩, rfl⟩
      ·refine V_gn rfl rfl rfl hc55 rfl rfl rfl ?_
       refine V_gn rfl rfl rfl hc55 rfl rfl rfl ?_
       refine V_ge rfl rfl rfl hc50 ?_
       refine V_y (Y_pick_fe rfl hc55 rfl) rfl rfl rfl ?_
       exact V_end fun a ha => ⟨(), ha.sub ⟨rfl, rfl, rfl, (by rw [hc55]; rfl), trivial⟩, rfl⟩
     simp only [List.take, List.drop]
     rintro _ _ rfl
     refine V_ge rfl rfl rfl hc44 ?_
     refine V_y (Y_pick_fe rfl hc50 rfl) rfl rfl rfl ?_
     obtain rfl := Option.some.inj hs51
     exact V_end fun a ha => ⟨(), ha.sub ⟨rfl, rfl, rfl, trivial⟩, rfl⟩
   simp only [List.take, List.drop]
   rintro _ _ rfl
   refine V_y (Y_pick_te rfl hc44 rfl) rfl rfl rfl ?_
   obtain rfl := Option.some.inj hs45
   exact V_end fun a ha => ⟨(), ha.sub ⟨rfl, rfl, trivial⟩, rfl⟩
  ·rw [if_neg (nt hc44)] at hs45
   refine V_gn rfl rfl rfl hc44 rfl rfl rfl ?_
   refine V_gn rfl rfl rfl hc44 rfl rfl rfl ?_
   refine V_gn rfl rfl rfl hc44 rfl rfl rfl ?_
   refine V_gn rfl rfl rfl hc44 rfl rfl rfl ?_
   refine V_gn rfl rfl rfl hc44 rfl rfl rfl ?_
   refine V_gn rfl rfl rfl hc44 rfl rfl rfl ?_
   refine V_gn rfl rfl rfl hc44 rfl rfl rfl ?_
   refine V_gu rfl rfl rfl rfl rfl ?_
   refine V_gu rfl rfl rfl rfl rfl ?_
   refine V_gu rfl rfl rfl rfl rfl ?_
   refine V_gu rfl rfl rfl rfl rfl ?_
   refine V_gu rfl rfl rfl rfl rfl ?_
   refine V_gu rfl rfl rfl rfl rfl ?_
   refine V_gu rfl rfl rfl rfl rfl ?_
   refine V_gu rfl rfl rfl rfl rfl ?_
   refine V_gu rfl rfl rfl rfl rfl ?_
   refine V_gn rfl rfl rfl hc44 rfl rfl rfl ?_
   refine V_y (Y_pick_fe rfl hc44 rfl) rfl rfl rfl ?_
   obtain rfl := Option.some.inj hs45
   exact V_end fun a ha => ⟨(), ha.sub ⟨rfl, rfl, trivial⟩, rfl⟩
 simp only [List.take, List.drop]
 rintro _ _ rfl
 refine V_as rfl rfl ?_
 refine V_as rfl rfl ?_
 refine V_to (fun _ _ => rfl) ?_
 obtain rfl := Option.some.inj hm
 refine C_ret ?_
 try simp only [↓inBlock_ret, ↓then_ret]
 exact retQ rfl (Res.two Tryz.results53 rfl rfl) ⟨rfl, rfl⟩

set_option maxRecDepth 4000 in
set_option maxHeartbeats 4000000 in
theorem know_checkPositions_c (w : World) {A : Nat → Prop} (l : (List Int)) (v_l : Value) (h_l : Sl A w v_l l) (size : Int) {r : Int} (hm : know_checkPositions l size = some r) : Ret Tryz.prog 55 #[v_l, .int .i64 size] w fun v w' => v = .int .i64 r ∧ w = w' := by
 unfold know_checkPositions at hm
 refine enter Tryz.func55 rfl Tryz.ntmps55 rfl ?_
 refine C_seq ?_
 refine C_region ?_
 refine V_as rfl rfl ?_
 refine V_to (fun _ _ => rfl) ?_
 refine C_seq ?_
 refine C_seq ?_
 refine C_region ?_
 refine V_mv rfl rfl ?_
 refine V_y (Y_lenSl h_l rfl Tryz.underlying22 rfl) rfl rfl rfl ?_
 refine V_mv rfl rfl ?_
 refine V_to (fun _ _ => rfl) ?_
 have hn19 := Sl.le h_l
 obtain ⟨o3, ho3, hm⟩ := Option.bind_eq_some_iff.1 hm
 refine C_cutG (ι := Unit) (fun (s4 : Unit) => [(0, v_l)]) (fun (s4 : Unit) => fun w' => o3 = .fin s4 ∧ w = w') ?_ ?_
 ·refine C_block ?_
  refine C_range ho3 (fun k6 _ a w' => ∃ i : Unit, Has ⟨40, [], none⟩ a ([(0, v_l), (1, .int .i64 size), (9, v_l), (10, .int .i64 (l.length : Int)), (11, .int .i64 (k6 : Int))]) ∧ w = w') (fun a ha => ⟨(), ha.sub ⟨rfl, rfl, rfl, rfl, rfl, trivial⟩, rfl⟩) ?_
  rintro K k6 _ a _ ⟨_, ha28, rfl⟩ hle15 K18 h17
  refine C_of ?_ ha28
  refine C_seq (C_region (V_y (Y_lss rfl rfl) rfl rfl rfl (V_to (fun _ _ => rfl) ?_)))
  refine C_seq ?_
  refine C_cond rfl (fun hc20 => ?_) (fun hc20 => ?_)
  ·have hlt16 := lt_of_dec hc20
   obtain ⟨x12, h13, h14⟩ := K18 hlt16
   refine C_skip_to (fun _ _ => rfl) ?_
   refine C_seq ?_
   refine C_block ?_
   refine C_seq ?_
   refine C_region ?_
   obtain ⟨x21, hx21, h13⟩ := Option.bind_eq_some_iff.1 h13
   refine V_indexAddr h_l hx21 Tryz.underlying22 Tryz.sizeOf3 rfl rfl rfl ?_
   intro b22 o23 h24
   refine V_y (Y_load (El.int h24) Tryz.isAgg3 rfl) rfl rfl rfl ?_
   refine V_as rfl rfl ?_
   refine V_to (fun _ _ => rfl) ?_
   refine C_seq ?_
   refine C_region ?_
   refine V_mv rfl rfl ?_
   refine V_mv rfl rfl ?_
   refine V_y (Y_subI rfl rfl) rfl rfl rfl ?_
   refine V_call Tryz.call9 rfl rfl rfl rfl (know_within_c w x21 0 (w64 (size - 1))) ?_
   rintro _ _ ⟨rfl, rfl⟩
   refine V_y (Y_not rfl) rfl rfl rfl ?_
   refine V_to (fun _ _ => rfl) ?_
   refine C_cond rfl (fun hc25 => ?_) (fun hc25 => ?_)
   ·rw [if_pos hc25] at h13
    refine C_seq ?_
    refine C_region ?_
    refine V_as rfl rfl ?_
    refine V_to (fun _ _ => rfl) ?_
    obtain rfl := Option.some.inj h13
    obtain rfl := (h14 : Lp.rt _ = _)
    rw [Lp.andThen_rt] at hm
    obtain rfl := Option.some.inj hm
    refine C_ret ?_
    try simp only [↓inBlock_ret, ↓then_ret]
    exact retQ rfl (Res.one Tryz.results55 rfl) ⟨rfl, rfl⟩
   ·rw [if_neg (nt hc25)] at h13
    refine C_skip_to (fun _ _ => rfl) ?_
    refine C_region ?_
    refine V_y (Y_addI rfl rfl) rfl rfl rfl ?_
    refine V_mv rfl rfl ?_
    obtain rfl := Option.some.inj h13
    refine V_end (fun a ha26 => ?_)
    exact ⟨(), hlt16, h14, ⟨(), ha26.sub ⟨rfl, rfl, rfl, rfl, (congrArg (fun z => some (Value.int .i64 z)) (w64_succ hlt16 hn19)), trivial⟩, rfl⟩⟩
  ·refine C_exit (fun a ha27 => ?_)
   exact ⟨(), ha27.sub ⟨rfl, trivial⟩, ⟨(h17 (eq_of_dec hle15 hc20)).symm, rfl⟩⟩
 rintro s4 _ ⟨rfl, rfl⟩ a ha9
 rw [Lp.andThen_fin] at hm
 refine C_at (n := ⟨40, [], none⟩) (fun _ _ => rfl) ?_ ha9
 refine C_seq ?_
 refine C_seq ?_
 refine C_region ?_
 refine V_mv rfl rfl ?_
 refine V_y (Y_lenSl h_l rfl Tryz.underlying22 rfl) rfl rfl rfl ?_
 refine V_mv rfl rfl ?_
 refine V_to (fun _ _ => rfl) ?_
 have hn45 := Sl.le h_l
 obtain ⟨o29, ho29, hm⟩ := Option.bind_eq_some_iff.1 hm
 refine C_cutG (ι := Unit) (fun (s30 : Unit) => []) (fun (s30 : Unit) => fun w' => o29 = .fin s30 ∧ w = w') ?_ ?_
 ·refine C_block ?_
  refine C_range ho29 (fun k32 _ a w' => ∃ i : Unit, Has ⟨40, [], none⟩ a ([(0, v_l), (21, v_l), (22, .int .i64 (l.length : Int)), (23, .int .i64 (k32 : Int))]) ∧ w = w') (fun a ha => ⟨(), ha.sub ⟨rfl, rfl, rfl, rfl, trivial⟩, rfl⟩) ?_
  rintro K k32 _ a _ ⟨_, ha60, rfl⟩ hle41 K44 h43
  refine C_of ?_ ha60
  refine C_seq (C_region (V_y (Y_lss rfl rfl) rfl rfl rfl (V_to (fun _ _ => rfl) ?_)))
  refine C_seq ?_
  refine C_cond rfl (fun hc46 => ?_) (fun hc46 => ?_)
  ·have hlt42 := lt_of_dec hc46
   obtain ⟨x38, h39, h40⟩ := K44 hlt42
   refine C_skip_to (fun _ _ => rfl) ?_
   refine C_seq ?_
   refine C_block ?_
   refine C_seq ?_
   refine C_region ?_
   refine V_mv rfl rfl ?_
   obtain ⟨x47, hx47, h39⟩ := Option.bind_eq_some_iff.1 h39
   refine V_indexAddr h_l hx47 Tryz.underlying22 Tryz.sizeOf3 rfl rfl rfl ?_
   intro b48 o49 h50
   refine V_y (Y_load (El.int h50) Tryz.isAgg3 rfl) rfl rfl rfl ?_
   refine V_as rfl rfl ?_
   refine V_as rfl rfl ?_
   refine V_to (fun _ _ => rfl) ?_
   refine C_seq ?_
   refine C_region ?_
   refine V_mv rfl rfl ?_
   refine V_y (Y_gtr rfl rfl) rfl rfl rfl ?_
   refine V_mv rfl rfl ?_
   obtain ⟨s52, hs52, h39⟩ := Option.bind_eq_some_iff.1 h39
   refine V_cut 8 (fun _ : Unit => [(0, v_l), (21, v_l), (22, .int .i64 (l.length : Int)), (23, .int .i64 (k32 : Int)), (38, .bool s52)]) (fun _ w' => w = w') ?_ ?_
   ·simp only [List.take, List.drop]
    rcases Bool.eq_false_or_eq_true (decide ((0 : Int) < (k32 : Int))) with hc51 | hc51
    ·rw [if_pos hc51] at hs52
     refine V_ge rfl rfl rfl hc51 ?_
     refine V_mv rfl rfl ?_
     refine V_ge rfl rfl rfl hc51 ?_
     refine V_mv rfl rfl ?_
     refine V_ge rfl rfl rfl hc51 ?_
     refine V_mv rfl rfl ?_
     refine V_ge rfl rfl rfl hc51 ?_
     refine V_y (Y_subI rfl rfl) rfl rfl rfl ?_
     refine V_ge rfl rfl rfl hc51 ?_
     obtain ⟨x53, hx53, hs52⟩ := Option.bind_eq_some_iff.1 hs52
     refine V_indexAddr h_l hx53 Tryz.underlying22 Tryz.sizeOf3 rfl rfl rfl ?_
     intro b54 o55 h56
     refine V_ge rfl rfl rfl hc51 ?_
     refine V_y (Y_load (El.int h56) Tryz.isAgg3 rfl) rfl rfl rfl ?_
     refine V_ge rfl rfl rfl hc51 ?_
     refine V_y (Y_leq rfl rfl) rfl rfl rfl ?_
     refine V_y (Y_pick_te rfl hc51 rfl) rfl rfl rfl ?_
     obtain rfl := Option.some.inj hs52
     exact V_end fun a ha => ⟨(), ha.sub ⟨rfl, rfl, rfl, rfl, rfl, trivial⟩, rfl⟩
    ·rw [if_neg (nt hc51)] at hs52
     refine V_gn rfl rfl rfl hc51 rfl rfl rfl ?_
     refine V_gn rfl rfl rfl hc51 rfl rfl rfl ?_
     refine V_gn rfl rfl rfl hc51 rfl rfl rfl ?_
     refine V_gn rfl rfl rfl hc51 rfl rfl rfl ?_
     refine V_gn rfl rfl rfl hc51 rfl rfl rfl ?_
     refine V_gn rfl rfl rfl hc51 rfl rfl rfl ?_
     refine V_gn rfl rfl rfl hc51 rfl rfl rfl ?_
     refine V_y (Y_pick_fe rfl hc51 rfl) rfl rfl rfl ?_
     obtain rfl := Option.some.inj hs52
     exact V_end fun a ha => ⟨(), ha.sub ⟨rfl, rfl, rfl, rfl, rfl, trivial⟩, rfl⟩
   simp only [List.take, List.drop]
   rintro _ _ rfl
   refine V_to (fun _ _ => rfl) ?_
   refine C_cond rfl (fun hc57 => ?_) (fun hc57 => ?_)
   ·rw [if_pos hc57] at h39
    refine C_seq ?_
    refine C_region ?_
    refine V_as rfl rfl ?_
    refine V_to (fun _ _ => rfl) ?_
    obtain rfl := Option.some.inj h39
    obtain rfl := (h40 : Lp.rt _ = _)
    rw [Lp.andThen_rt] at hm
    obtain rfl := Option.some.inj hm
    refine C_ret ?_
    try simp only [↓inBlock_ret, ↓then_ret]
    exact retQ rfl (Res.one Tryz.results55 rfl) ⟨rfl, rfl⟩
   ·rw [if_neg (nt hc57)] at h39
    refine C_skip_to (fun _ _ => rfl) ?_
    refine C_region ?_
    refine V_y (Y_addI rfl rfl) rfl rfl rfl ?_
    refine V_mv rfl rfl ?_
    obtain rfl := Option.some.inj h39
    refine V_end (fun a ha58 => ?_)
    exact ⟨(), hlt42, h40, ⟨(), ha58.sub ⟨rfl, rfl, rfl, (congrArg (fun z => some (Value.int .i64 z)) (w64_succ hlt42 hn45)), trivial⟩, rfl⟩⟩
  ·refine C_exit (fun a ha59 => ?_)
   exact ⟨(), ha59.sub trivial, ⟨(h43 (eq_of_dec hle41 hc46)).symm, rfl⟩⟩
 rintro s30 _ ⟨rfl, rfl⟩ a ha35
 rw [Lp.andThen_fin] at hm
 refine C_at (n := ⟨40, [], none⟩) (fun _ _ => rfl) ?_ ha35
 refine C_seq ?_
 refine C_region ?_
 refine V_as rfl rfl ?_
 refine V_to (fun _ _ => rfl) ?_
 obtain rfl := Option.some.inj hm
 refine C_ret ?_
 try simp only [↓inBlock_ret, ↓then_ret]
 exact retQ rfl (Res.one Tryz.results55 rfl) ⟨rfl, rfl⟩

set_option maxRecDepth 4000 in
set_option maxHeartbeats 4000000 in
theorem cmp_Or_api_Errno_c (w : World) {A : Nat → Prop} (vals : (List Int)) (v_vals : Value) (h_vals : Sl A w v_vals vals) {r : Int} (hm : cmp_Or_api_Errno vals = some r) : Ret Tryz.prog 54 #[v_vals] w fun v w' => v = .int .i64 r ∧ w = w' := by
 unfold cmp_Or_api_Errno at hm
 refine enter Tryz.func54 rfl Tryz.ntmps54 rfl ?_
 refine C_seq ?_
 refine C_region ?_
 refine V_as rfl rfl ?_
 refine V_to (fun _ _ => rfl) ?_
 refine C_seq ?_
 refine C_region ?_
 refine V_as rfl rfl ?_
 refine V_to (fun _ _ => rfl) ?_
 refine C_seq ?_
 refine C_seq ?_
 refine C_region ?_
 refine V_mv rfl rfl ?_
 refine V_y (Y_lenSl h_vals rfl Tryz.underlying121 rfl) rfl rfl rfl ?_
 refine V_mv rfl rfl ?_
 refine V_to (fun _ _ => rfl) ?_
 have hn19 := Sl.le h_vals
 obtain ⟨o3, ho3, hm⟩ := Option.bind_eq_some_iff.1 hm
 refine C_cutG (ι := Unit) (fun (s4 : Unit) => [(3, .int .i64 0)]) (fun (s4 : Unit) => fun w' => o3 = .fin s4 ∧ w = w') ?_ ?_
 ·refine C_block ?_
  refine C_range ho3 (fun k6 _ a w' => ∃ i : Unit, Has ⟨18, [], none⟩ a ([(3, .int .i64 0), (6, v_vals), (7, .int .i64 (vals.length : Int)), (8, .int .i64 (k6 : Int))]) ∧ w = w') (fun a ha => ⟨(), ha.sub ⟨rfl, rfl, rfl, rfl, trivial⟩, rfl⟩) ?_
  rintro K k6 _ a _ ⟨_, ha28, rfl⟩ hle15 K18 h17
  refine C_of ?_ ha28
  refine C_seq (C_region (V_y (Y_lss rfl rfl) rfl rfl rfl (V_to (fun _ _ => rfl) ?_)))
  refine C_seq ?_
  refine C_cond rfl (fun hc20 => ?_) (fun hc20 => ?_)
  ·have hlt16 := lt_of_dec hc20
   obtain ⟨x12, h13, h14⟩ := K18 hlt16
   refine C_skip_to (fun _ _ => rfl) ?_
   refine C_seq ?_
   refine C_block ?_
   refine C_seq ?_
   refine C_region ?_
   obtain ⟨x21, hx21, h13⟩ := Option.bind_eq_some_iff.1 h13
   refine V_indexAddr h_vals hx21 Tryz.underlying121 Tryz.sizeOf30 rfl rfl rfl ?_
   intro b22 o23 h24
   refine V_y (Y_load (El.int h24) Tryz.isAgg30 rfl) rfl rfl rfl ?_
   refine V_as rfl rfl ?_
   refine V_to (fun _ _ => rfl) ?_
   refine C_seq ?_
   refine C_region ?_
   refine V_mv rfl rfl ?_
   refine V_mv rfl rfl ?_
   refine V_y (Y_neq rfl rfl) rfl rfl rfl ?_
   refine V_to (fun _ _ => rfl) ?_
   refine C_cond rfl (fun hc25 => ?_) (fun hc25 => ?_)
   ·rw [if_pos hc25] at h13
    refine C_seq ?_
    refine C_region ?_
    refine V_mv rfl rfl ?_
    refine V_as rfl rfl ?_
    refine V_to (fun _ _ => rfl) ?_
    obtain rfl := Option.some.inj h13
    obtain rfl := (h14 : Lp.rt _ = _)
    rw [Lp.andThen_rt] at hm
    obtain rfl := Option.some.inj hm
    refine C_ret ?_
    try simp only [↓inBlock_ret, ↓then_ret]
    exact retQ rfl (Res.one Tryz.results54 rfl) ⟨rfl, rfl⟩
   ·rw [if_neg (nt hc25)] at h13
    refine C_skip_to (fun _ _ => rfl) ?_
    refine C_region ?_
    refine V_y (Y_addI rfl rfl) rfl rfl rfl ?_
    refine V_mv rfl rfl ?_
    obtain rfl := Option.some.inj h13
    refine V_end (fun a ha26 => ?_)
    exact ⟨(), hlt16, h14, ⟨(), ha26.sub ⟨rfl, rfl, rfl, (congrArg (fun z => some (Value.int .i64 z)) (w64_succ hlt16 hn19)), trivial⟩, rfl⟩⟩
  ·refine C_exit (fun a ha27 => ?_)
   exact ⟨(), ha27.sub ⟨rfl, trivial⟩, ⟨(h17 (eq_of_dec hle15 hc20)).symm, rfl⟩⟩
 rintro s4 _ ⟨rfl, rfl⟩ a ha9
 rw [Lp.andThen_fin] at hm
 refine C_at (n := ⟨18, [], none⟩) (fun _ _ => rfl) ?_ ha9
 refine C_seq ?_
 refine C_region ?_
 refine V_mv rfl rfl ?_
 refine V_as rfl rfl ?_
 refine V_to (fun _ _ => rfl) ?_
 obtain rfl := Option.some.inj hm
 refine C_ret ?_
 try simp only [↓inBlock_ret, ↓then_ret]
 exact retQ rfl (Res.one Tryz.results54 rfl) ⟨rfl, rfl⟩

set_option maxRecDepth 4000 in
set_option maxHeartbeats 4000000 in
theorem know_Index_checkTerm_c (w : World) {A : Nat → Prop} (hA : ∀ b, w.heap.size ≤ b → A b) (x : know_Index) (v_x0 : Value) (h_x0 : Sl A w v_x0 x.ids) (v_x1 : Value) (h_x1 : Sl A w v_x1 x.sizes) (v_x2 : Value) (h_x2 : Sl A w v_x2 x.terms) (t : know_Term) (v_t : Value) (h_t : Sl A w v_t t.list_) {r : Int} (hm : know_Index_checkTerm x t = some r) : Ret Tryz.prog 23 #[.agg #[v_x0, v_x1, v_x2], .agg #[.string t.word, v_t]] w fun v w' => v = .int .i64 r ∧ Kp Dw w w' := by
 unfold know_Index_checkTerm at hm
 refine enter Tryz.func23 rfl Tryz.ntmps23 rfl ?_
 have hA0 := hA
 have hB := Nat.le_refl w.heap.size
 have hK : Tr Dw w.heap.size A w A w := Tr.refl (Dw := Dw) hA
 have hH : Hp w.heap.size A w [] := Hp.nil
 refine C_seq ?_
 refine C_region ?_
 refine V_box rfl rfl ?_
 intro b9 w10 h11
 have hk13 := h11.kp (Dw := Dw)
 have h12 : El (α := know_Index) A w10 b9 0 x := h11.el hA ⟨[v_x0], _, rfl, ⟨_, rfl, h_x0⟩, ⟨[v_x1], _, rfl, ⟨_, rfl, h_x1⟩, ⟨_, rfl, h_x2⟩⟩⟩
 have ht14 := Kp.tr hk13 hA hB
 replace hH := Hp.kp hH hk13
 replace h_t := Sl.tr h_t ht14
 replace hK := Tr.trans hK ht14
 replace hB := Nat.le_trans hB ht14.ex.size
 replace hA := ht14.new
 refine V_box rfl rfl ?_
 intro b15 w17 h18
 have hk20 := h18.kp (Dw := Dw)
 have h19 : El (α := know_Term) A w17 b15 0 t := h18.el hA ⟨[.string t.word], _, rfl, rfl, ⟨_, rfl, h_t⟩⟩
 have ht21 := Kp.tr hk20 hA hB
 replace hH := Hp.kp hH hk20
 replace h12 := El.tr h12 ht21
 replace hK := Tr.trans hK ht21
 replace hB := Nat.le_trans hB ht21.ex.size
 replace hA := ht21.new
 refine V_as rfl rfl ?_
 refine V_to (fun _ _ => rfl) ?_
 refine C_seq ?_
 refine C_region ?_
 refine V_as rfl rfl ?_
 refine V_to (fun _ _ => rfl) ?_
 refine C_seq ?_
 refine C_seq ?_
 refine C_region ?_
 have h22 := El_know_Term_1 h19
 refine V_y (Y_fieldAddr Tryz.underlying51 rfl Tryz.sizeOf49 (by decide) rfl) rfl rfl rfl ?_
 obtain ⟨v23, h24, h25⟩ := El.list h22
 refine V_y (Y_load h24 Tryz.isAgg49 rfl) rfl rfl rfl ?_
 refine V_y (Y_lenSl h25 rfl Tryz.underlying49 rfl) rfl rfl rfl ?_
 refine V_mv rfl rfl ?_
 refine V_to (fun _ _ => rfl) ?_
 have hn46 := Sl.le h25
 obtain ⟨o26, ho26, hm⟩ := Option.bind_eq_some_iff.1 hm
 refine C_cutG (ι := (Int × (Nat → Prop))) (fun ⟨s27, A33⟩ => []) (fun ⟨s27, A33⟩ => fun w' => o26 = .fin s27 ∧ Hp w.heap.size A33 w' ([]) ∧ Tr Dw w.heap.size A w17 A33 w') ?_ ?_
 ·refine C_block ?_
  refine C_range ho26 (fun k29 s35 a w' => ∃ i : (Nat → Prop), Has ⟨67, [], none⟩ a ([(2, .pointer (some ⟨b9, 0, none⟩)), (5, .int .i64 s35), (12, v23), (13, .int .i64 (t.list_.length : Int)), (14, .int .i64 (k29 : Int))]) ∧ Hp w.heap.size i w' ([]) ∧ Tr Dw w.heap.size A w17 i w') (fun a ha => ⟨A, ha.sub ⟨rfl, rfl, rfl, rfl, rfl, trivial⟩, ⟨hH, Tr.refl (Dw := Dw) hA⟩⟩) ?_
  rintro K k29 s35 a w36 ⟨A37, ha127, hH38, hr28⟩ hle42 K45 h44
  refine C_of ?_ ha127
  replace h12 := El.tr h12 hr28
  replace h25 := Sl.tr h25 hr28
  replace hK := Tr.trans hK hr28
  replace hB := Nat.le_trans hB hr28.ex.size
  replace hA := hr28.new
  replace hH : Hp w.heap.size A37 w36 ([]) := hH38
  refine C_seq (C_region (V_y (Y_lss rfl rfl) rfl rfl rfl (V_to (fun _ _ => rfl) ?_)))
  refine C_seq ?_
  refine C_cond rfl (fun hc47 => ?_) (fun hc47 => ?_)
  ·have hlt43 := lt_of_dec hc47
   obtain ⟨x39, h40, h41⟩ := K45 hlt43
   refine C_skip_to (fun _ _ => rfl) ?_
   refine C_seq ?_
   refine C_block ?_
   refine C_seq ?_
   refine C_region ?_
   obtain ⟨x48, hx48, h40⟩ := Option.bind_eq_some_iff.1 h40
   refine V_indexAddr h25 hx48 Tryz.underlying49 Tryz.sizeOf69 rfl rfl rfl ?_
   intro b49 o50 h51
   obtain ⟨v52, v54, h56, h53, h55⟩ := El_know_Posting h51
   refine V_y (Y_loadA h56 Tryz.isAgg69 Tryz.sizeOf69 rfl) rfl rfl rfl ?_
   refine V_alloc Tryz.zeroValue69 rfl ?_
   intro b57 w58 h59
   have h64 : (v52).oneCell' = true := by obtain ⟨_, _, e, _⟩ := Sl.form h53; rw [e]; rfl
   have h67 : (v54).oneCell' = true := by obtain ⟨_, _, e, _⟩ := Sl.form h55; rw [e]; rfl
   refine V_storeNew h59 Tryz.sizeOf69 rfl rfl rfl rfl (by exact (List.forall_mem_cons.2 ⟨rfl, (List.forall_mem_cons.2 ⟨h64, (List.forall_mem_cons.2 ⟨h67, (fun _ h => nomatch h)⟩)⟩)⟩)) ?_
   intro w60 h61
   have hk69 := h61.kp (Dw := Dw)
   have h68 : El (α := know_Posting) A37 w60 b57 0 x48 := h61.el hA ⟨[.int .i64 x48.id_], _, rfl, rfl, ⟨[v52], _, rfl, ⟨_, rfl, h53⟩, ⟨_, rfl, h55⟩⟩⟩
   have ht70 := Kp.tr hk69 hA hB
   replace hH := Hp.kp hH hk69
   replace h12 := El.tr h12 ht70
   replace hK := Tr.trans hK ht70
   replace hr28 := Tr.trans hr28 ht70
   replace hB := Nat.le_trans hB ht70.ex.size
   replace hA := ht70.new
   refine V_to (fun _ _ => rfl) ?_
   refine C_seq ?_
   refine C_region ?_
   have h71 := El_know_Index_0 h12
   refine V_y (Y_fieldAddr Tryz.underlying25 rfl Tryz.sizeOf22 (by decide) rfl) rfl rfl rfl ?_
   obtain ⟨v72, h73, h74⟩ := El.list h71
   refine V_y (Y_load h73 Tryz.isAgg22 rfl) rfl rfl rfl ?_
   have h75 := El_know_Posting_0 h68
   refine V_y (Y_fieldAddr Tryz.underlying69 rfl Tryz.sizeOf3 (by decide) rfl) rfl rfl rfl ?_
   refine V_y (Y_load (El.int h75) Tryz.isAgg3 rfl) rfl rfl rfl ?_
   obtain ⟨x76, hx76, h40⟩ := Option.bind_eq_some_iff.1 h40
   refine V_call Tryz.call53 rfl rfl rfl rfl (slices_BinarySearch_Lint_int_c w60 x.ids v72 h74 x48.id_ hx76) ?_
   rintro _ _ ⟨rfl, rfl⟩
   refine V_mv rfl rfl ?_
   refine V_y (Y_extract rfl rfl) rfl rfl rfl ?_
   refine V_y (Y_extract rfl rfl) rfl rfl rfl ?_
   refine V_as rfl rfl ?_
   refine V_as rfl rfl ?_
   refine V_to (fun _ _ => rfl) ?_
   refine C_seq ?_
   refine C_block ?_
   refine C_seq ?_
   refine C_region ?_
   refine V_mv rfl rfl ?_
   refine V_y (Y_not rfl) rfl rfl rfl ?_
   refine V_as rfl rfl ?_
   refine V_to (fun _ _ => rfl) ?_
   refine C_cond rfl (fun hc77 => ?_) (fun hc77 => ?_)
   ·rw [if_pos hc77] at h40
    refine C_seq ?_
    refine C_region ?_
    refine V_as rfl rfl ?_
    refine V_to (fun _ _ => rfl) ?_
    obtain rfl := Option.some.inj h40
    obtain rfl := (h41 : Lp.rt _ = _)
    rw [Lp.andThen_rt] at hm
    obtain rfl := Option.some.inj hm
    refine C_ret ?_
    try simp only [↓inBlock_ret, ↓then_ret]
    exact retQ rfl (Res.one Tryz.results23 rfl) ⟨rfl, hK.kp⟩
   ·rw [if_neg (nt hc77)] at h40
    refine C_seq ?_
    refine C_region ?_
    have h78 := El_know_Posting_0 h68
    refine V_y (Y_fieldAddr Tryz.underlying69 rfl Tryz.sizeOf3 (by decide) rfl) rfl rfl rfl ?_
    refine V_y (Y_load (El.int h78) Tryz.isAgg3 rfl) rfl rfl rfl ?_
    refine V_mv rfl rfl ?_
    refine V_y (Y_leq rfl rfl) rfl rfl rfl ?_
    refine V_as rfl rfl ?_
    refine V_to (fun _ _ => rfl) ?_
    refine C_cond rfl (fun hc79 => ?_) (fun hc79 => ?_)
    ·rw [if_pos hc79] at h40
     refine C_seq ?_
     refine C_region ?_
     refine V_as rfl rfl ?_
     refine V_to (fun _ _ => rfl) ?_
     obtain rfl := Option.some.inj h40
     obtain rfl := (h41 : Lp.rt _ = _)
     rw [Lp.andThen_rt] at hm
     obtain rfl := Option.some.inj hm
     refine C_ret ?_
     try simp only [↓inBlock_ret, ↓then_ret]
     exact retQ rfl (Res.one Tryz.results23 rfl) ⟨rfl, hK.kp⟩
    ·rw [if_neg (nt hc79)] at h40
     refine C_seq ?_
     refine C_region ?_
     have h80 := El_know_Posting_1 h68
     refine V_y (Y_fieldAddr Tryz.underlying69 rfl Tryz.sizeOf22 (by decide) rfl) rfl rfl rfl ?_
     obtain ⟨v81, h82, h83⟩ := El.list h80
     refine V_y (Y_load h82 Tryz.isAgg22 rfl) rfl rfl rfl ?_
     refine V_y (Y_lenSl h83 rfl Tryz.underlying22 rfl) rfl rfl rfl ?_
     have h84 := El_know_Posting_2 h68
     refine V_y (Y_fieldAddr Tryz.underlying69 rfl Tryz.sizeOf22 (by decide) rfl) rfl rfl rfl ?_
     obtain ⟨v85, h86, h87⟩ := El.list h84
     refine V_y (Y_load h86 Tryz.isAgg22 rfl) rfl rfl rfl ?_
     refine V_y (Y_lenSl h87 rfl Tryz.underlying22 rfl) rfl rfl rfl ?_
     refine V_y (Y_addI rfl rfl) rfl rfl rfl ?_
     refine V_y (Y_eql rfl rfl) rfl rfl rfl ?_
     refine V_as rfl rfl ?_
     refine V_to (fun _ _ => rfl) ?_
     refine C_cond rfl (fun hc88 => ?_) (fun hc88 => ?_)
     ·rw [if_pos hc88] at h40
      refine C_seq ?_
      refine C_region ?_
      refine V_as rfl rfl ?_
      refine V_to (fun _ _ => rfl) ?_
      obtain rfl := Option.some.inj h40
      obtain rfl := (h41 : Lp.rt _ = _)
      rw [Lp.andThen_rt] at hm
      obtain rfl := Option.some.inj hm
      refine C_ret ?_
      try simp only [↓inBlock_ret, ↓then_ret]
      exact retQ rfl (Res.one Tryz.results23 rfl) ⟨rfl, hK.kp⟩
     ·rw [if_neg (nt hc88)] at h40
      refine C_skip_to (fun _ _ => rfl) ?_
      refine C_seq ?_
      refine C_region ?_
      have h89 := El_know_Posting_0 h68
      refine V_y (Y_fieldAddr Tryz.underlying69 rfl Tryz.sizeOf3 (by decide) rfl) rfl rfl rfl ?_
      refine V_y (Y_load (El.int h89) Tryz.isAgg3 rfl) rfl rfl rfl ?_
      refine V_as rfl rfl ?_
      refine V_to (fun _ _ => rfl) ?_
      refine C_seq ?_
      refine C_region_qt (Dw := Dw) 16 Tryz_mixed (by kernel_rfl) ?_
      simp only [List.take, List.drop]
      have h90 := El_know_Posting_1 h68
      refine VQ_y (fun w' hw' => Y_fieldAddr Tryz.underlying69 rfl Tryz.sizeOf22 (by decide) rfl) rfl rfl rfl ?_
      obtain ⟨v91, h92, h93⟩ := El.list h90
      refine VQ_y (fun w' hw' => Y_load ((World.cell?_of_block (hw'.block _ (World.block_lt_of_cell? _ _ h92))).trans h92) Tryz.isAgg22 rfl) rfl rfl rfl ?_
      have h94 := El_know_Index_1 h12
      refine VQ_y (fun w' hw' => Y_fieldAddr Tryz.underlying25 rfl Tryz.sizeOf22 (by decide) rfl) rfl rfl rfl ?_
      obtain ⟨v95, h96, h97⟩ := El.list h94
      refine VQ_y (fun w' hw' => Y_load ((World.cell?_of_block (hw'.block _ (World.block_lt_of_cell? _ _ h96))).trans h96) Tryz.isAgg22 rfl) rfl rfl rfl ?_
      refine VQ_y (fun w' hw' => Y_move rfl) rfl rfl rfl ?_
      obtain ⟨x98, hx98, h40⟩ := Option.bind_eq_some_iff.1 h40
      refine VQ_indexAddr h97 hx98 Tryz.underlying22 Tryz.sizeOf3 rfl rfl rfl ?_
      intro b99 o100 h101
      refine VQ_y (fun w' hw' => Y_load (El.int (El.kp (Dw := Dw) h101 hw')) Tryz.isAgg3 rfl) rfl rfl rfl ?_
      obtain ⟨x102, hx102, h40⟩ := Option.bind_eq_some_iff.1 h40
      refine VQ_call (.int .i64 x102) Tryz.call55 rfl rfl rfl rfl (fun w' hw' => (know_checkPositions_c w' x48.title v91 (Sl.kp (Dw := Dw) h93 hw') x98 hx102).mono (fun _ _ h => ⟨h.1, h.2 ▸ hw'⟩)) ?_
      have h103 := El_know_Posting_2 h68
      refine VQ_y (fun w' hw' => Y_fieldAddr Tryz.underlying69 rfl Tryz.sizeOf22 (by decide) rfl) rfl rfl rfl ?_
      obtain ⟨v104, h105, h106⟩ := El.list h103
      refine VQ_y (fun w' hw' => Y_load ((World.cell?_of_block (hw'.block _ (World.block_lt_of_cell? _ _ h105))).trans h105) Tryz.isAgg22 rfl) rfl rfl rfl ?_
      have h107 := El_know_Index_1 h12
      refine VQ_y (fun w' hw' => Y_fieldAddr Tryz.underlying25 rfl Tryz.sizeOf22 (by decide) rfl) rfl rfl rfl ?_
      obtain ⟨v108, h109, h110⟩ := El.list h107
      refine VQ_y (fun w' hw' => Y_load ((World.cell?_of_block (hw'.block _ (World.block_lt_of_cell? _ _ h109))).trans h109) Tryz.isAgg22 rfl) rfl rfl rfl ?_
      refine VQ_y (fun w' hw' => Y_move rfl) rfl rfl rfl ?_
      refine VQ_indexAddr h110 hx98 Tryz.underlying22 Tryz.sizeOf3 rfl rfl rfl ?_
      intro b111 o112 h113
      refine VQ_y (fun w' hw' => Y_load (El.int (El.kp (Dw := Dw) h113 hw')) Tryz.isAgg3 rfl) rfl rfl rfl ?_
      obtain ⟨x114, hx114, h40⟩ := Option.bind_eq_some_iff.1 h40
      refine VQ_call (.int .i64 x114) Tryz.call55 rfl rfl rfl rfl (fun w' hw' => (know_checkPositions_c w' x48.body v104 (Sl.kp (Dw := Dw) h106 hw') x98 hx114).mono (fun _ _ h => ⟨h.1, h.2 ▸ hw'⟩)) ?_
      refine VQ_tail (fun w115 hk116 => ?_)
      try simp only [List.take, List.drop]
      have ht117 := Kp.tr hk116 hA hB
      replace hH := Hp.kp hH hk116
      replace hK := Tr.trans hK ht117
      replace hr28 := Tr.trans hr28 ht117
      replace hB := Nat.le_trans hB ht117.ex.size
      replace hA := ht117.new
      refine V_buildSlice (Dw := Dw) (l := ([x102, x114] : List Int)) (len := 2) Tryz.underlying121 Tryz.sizeOf30 Tryz.zeroValue30 rfl (by with_unfolding_all rfl) (show (2 * 1 : Nat) ≠ 0 by decide) (show (2 * 1 : Nat) ≤ 2 ^ 24 by decide) hA ⟨[.int .i64 x102], _, rfl, rfl, ⟨[.int .i64 x114], _, rfl, rfl, rfl⟩⟩ rfl rfl ?_
      intro v118 w119 hk121 h120
      have ht122 := Kp.tr hk121 hA hB
      replace hH := Hp.kp hH hk121
      replace hK := Tr.trans hK ht122
      replace hr28 := Tr.trans hr28 ht122
      obtain ⟨x123, hx123, h40⟩ := Option.bind_eq_some_iff.1 h40
      refine V_call Tryz.call54 rfl rfl rfl rfl (cmp_Or_api_Errno_c w119 ([x102, x114] : List Int) v118 h120 hx123) ?_
      rintro _ _ ⟨rfl, rfl⟩
      refine V_as rfl rfl ?_
      refine V_to (fun _ _ => rfl) ?_
      refine C_seq ?_
      refine C_region ?_
      refine V_mv rfl rfl ?_
      refine V_y (Y_neq rfl rfl) rfl rfl rfl ?_
      refine V_to (fun _ _ => rfl) ?_
      refine C_cond rfl (fun hc124 => ?_) (fun hc124 => ?_)
      ·rw [if_pos hc124] at h40
       refine C_seq ?_
       refine C_region ?_
       refine V_mv rfl rfl ?_
       refine V_as rfl rfl ?_
       refine V_to (fun _ _ => rfl) ?_
       obtain rfl := Option.some.inj h40
       obtain rfl := (h41 : Lp.rt _ = _)
       rw [Lp.andThen_rt] at hm
       obtain rfl := Option.some.inj hm
       refine C_ret ?_
       try simp only [↓inBlock_ret, ↓then_ret]
       exact retQ rfl (Res.one Tryz.results23 rfl) ⟨rfl, hK.kp⟩
      ·rw [if_neg (nt hc124)] at h40
       refine C_skip_to (fun _ _ => rfl) ?_
       refine C_region ?_
       refine V_y (Y_addI rfl rfl) rfl rfl rfl ?_
       refine V_mv rfl rfl ?_
       obtain rfl := Option.some.inj h40
       refine V_end (fun a ha125 => ?_)
       exact ⟨x48.id_, hlt43, h41, ⟨A37, ha125.sub ⟨rfl, rfl, rfl, rfl, (congrArg (fun z => some (Value.int .i64 z)) (w64_succ hlt43 hn46)), trivial⟩, ⟨hH, hr28⟩⟩⟩
  ·refine C_exit (fun a ha126 => ?_)
   exact ⟨(s35, A37), ha126.sub trivial, ⟨(h44 (eq_of_dec hle42 hc47)).symm, hH, hr28⟩⟩
 rintro ⟨s27, A33⟩ w30 ⟨rfl, hH34, hk31⟩ a ha32
 rw [Lp.andThen_fin] at hm
 replace hK := Tr.trans hK hk31
 replace hA := hk31.new
 replace hH : Hp w.heap.size A33 w30 ([]) := hH34
 refine C_at (n := ⟨67, [], none⟩) (fun _ _ => rfl) ?_ ha32
 refine C_seq ?_
 refine C_region ?_
 refine V_as rfl rfl ?_
 refine V_to (fun _ _ => rfl) ?_
 obtain rfl := Option.some.inj hm
 refine C_ret ?_
 try simp only [↓inBlock_ret, ↓then_ret]
 exact retQ rfl (Res.one Tryz.results23 rfl) ⟨rfl, hK.kp⟩

set_option maxRecDepth 4000 in
set_option maxHeartbeats 4000000 in
theorem know_CheckIndex_c (w : World) {A : Nat → Prop} (hA : ∀ b, w.heap.size ≤ b → A b) (x : know_Index) (v_x0 : Value) (h_x0 : Sl A w v_x0 x.ids) (v_x1 : Value) (h_x1 : Sl A w v_x1 x.sizes) (v_x2 : Value) (h_x2 : Sl A w v_x2 x.terms) {r : Int} (hm : know_CheckIndex x = some r) : Ret Tryz.prog 7 #[.agg #[v_x0, v_x1, v_x2]] w fun v w' => v = .int .i64 r ∧ Kp Dw w w' := by
 unfold know_CheckIndex at hm
 refine enter Tryz.func7 rfl Tryz.ntmps7 rfl ?_
 have hA0 := hA
 have hB := Nat.le_refl w.heap.size
 have hK : Tr Dw w.heap.size A w A w := Tr.refl (Dw := Dw) hA
 have hH : Hp w.heap.size A w [] := Hp.nil
 refine C_seq ?_
 refine C_region ?_
 refine V_box rfl rfl ?_
 intro b7 w9 h10
 have hk12 := h10.kp (Dw := Dw)
 have h11 : El (α := know_Index) A w9 b7 0 x := h10.el hA ⟨[v_x0], _, rfl, ⟨_, rfl, h_x0⟩, ⟨[v_x1], _, rfl, ⟨_, rfl, h_x1⟩, ⟨_, rfl, h_x2⟩⟩⟩
 have ht13 := Kp.tr hk12 hA hB
 replace hH := Hp.kp hH hk12
 replace hK := Tr.trans hK ht13
 replace hB := Nat.le_trans hB ht13.ex.size
 replace hA := ht13.new
 refine V_as rfl rfl ?_
 refine V_to (fun _ _ => rfl) ?_
 refine C_seq ?_
 refine C_seq ?_
 refine C_region ?_
 have h14 := El_know_Index_0 h11
 refine V_y (Y_fieldAddr Tryz.underlying25 rfl Tryz.sizeOf22 (by decide) rfl) rfl rfl rfl ?_
 obtain ⟨v15, h16, h17⟩ := El.list h14
 refine V_y (Y_load h16 Tryz.isAgg22 rfl) rfl rfl rfl ?_
 refine V_y (Y_lenSl h17 rfl Tryz.underlying22 rfl) rfl rfl rfl ?_
 refine V_y (Y_gtr rfl rfl) rfl rfl rfl ?_
 refine V_to (fun _ _ => rfl) ?_
 refine C_cond rfl (fun hc18 => ?_) (fun hc18 => ?_)
 ·rw [if_pos hc18] at hm
  refine C_seq ?_
  refine C_region ?_
  refine V_as rfl rfl ?_
  refine V_to (fun _ _ => rfl) ?_
  obtain rfl := Option.some.inj hm
  refine C_ret ?_
  try simp only [↓inBlock_ret, ↓then_ret]
  exact retQ rfl (Res.one Tryz.results7 rfl) ⟨rfl, hK.kp⟩
 ·rw [if_neg (nt hc18)] at hm
  refine C_skip_to (fun _ _ => rfl) ?_
  refine C_seq ?_
  refine C_seq ?_
  refine C_region ?_
  have h19 := El_know_Index_1 h11
  refine V_y (Y_fieldAddr Tryz.underlying25 rfl Tryz.sizeOf22 (by decide) rfl) rfl rfl rfl ?_
  obtain ⟨v20, h21, h22⟩ := El.list h19
  refine V_y (Y_load h21 Tryz.isAgg22 rfl) rfl rfl rfl ?_
  refine V_y (Y_lenSl h22 rfl Tryz.underlying22 rfl) rfl rfl rfl ?_
  have h23 := El_know_Index_0 h11
  refine V_y (Y_fieldAddr Tryz.underlying25 rfl Tryz.sizeOf22 (by decide) rfl) rfl rfl rfl ?_
  obtain ⟨v24, h25, h26⟩ := El.list h23
  refine V_y (Y_load h25 Tryz.isAgg22 rfl) rfl rfl rfl ?_
  refine V_y (Y_lenSl h26 rfl Tryz.underlying22 rfl) rfl rfl rfl ?_
  refine V_y (Y_neq rfl rfl) rfl rfl rfl ?_
  refine V_to (fun _ _ => rfl) ?_
  refine C_cond rfl (fun hc27 => ?_) (fun hc27 => ?_)
  ·rw [if_pos hc27] at hm
   refine C_seq ?_
   refine C_region ?_
   refine V_as rfl rfl ?_
   refine V_to (fun _ _ => rfl) ?_
   obtain rfl := Option.some.inj hm
   refine C_ret ?_
   try simp only [↓inBlock_ret, ↓then_ret]
   exact retQ rfl (Res.one Tryz.results7 rfl) ⟨rfl, hK.kp⟩
  ·rw [if_neg (nt hc27)] at hm
   refine C_skip_to (fun _ _ => rfl) ?_
   refine C_seq ?_
   refine C_seq ?_
   refine C_region ?_
   have h28 := El_know_Index_0 h11
   refine V_y (Y_fieldAddr Tryz.underlying25 rfl Tryz.sizeOf22 (by decide) rfl) rfl rfl rfl ?_
   obtain ⟨v29, h30, h31⟩ := El.list h28
   refine V_y (Y_load h30 Tryz.isAgg22 rfl) rfl rfl rfl ?_
   refine V_y (Y_lenSl h31 rfl Tryz.underlying22 rfl) rfl rfl rfl ?_
   refine V_mv rfl rfl ?_
   refine V_to (fun _ _ => rfl) ?_
   have hn48 := Sl.le h31
   obtain ⟨o32, ho32, hm⟩ := Option.bind_eq_some_iff.1 hm
   refine C_cutG (ι := Unit) (fun (s33 : Unit) => [(1, .pointer (some ⟨b7, 0, none⟩))]) (fun (s33 : Unit) => fun w' => o32 = .fin s33 ∧ w9 = w') ?_ ?_
   ·refine C_block ?_
    refine C_range ho32 (fun k35 _ a w' => ∃ i : Unit, Has ⟨103, [], none⟩ a ([(1, .pointer (some ⟨b7, 0, none⟩)), (21, v29), (22, .int .i64 (x.ids.length : Int)), (23, .int .i64 (k35 : Int))]) ∧ w9 = w') (fun a ha => ⟨(), ha.sub ⟨rfl, rfl, rfl, rfl, trivial⟩, rfl⟩) ?_
    rintro K k35 _ a _ ⟨_, ha77, rfl⟩ hle44 K47 h46
    refine C_of ?_ ha77
    refine C_seq (C_region (V_y (Y_lss rfl rfl) rfl rfl rfl (V_to (fun _ _ => rfl) ?_)))
    refine C_seq ?_
    refine C_cond rfl (fun hc49 => ?_) (fun hc49 => ?_)
    ·have hlt45 := lt_of_dec hc49
     obtain ⟨x41, h42, h43⟩ := K47 hlt45
     refine C_skip_to (fun _ _ => rfl) ?_
     refine C_seq ?_
     refine C_block ?_
     refine C_seq ?_
     refine C_region ?_
     refine V_mv rfl rfl ?_
     obtain ⟨x50, hx50, h42⟩ := Option.bind_eq_some_iff.1 h42
     refine V_indexAddr h31 hx50 Tryz.underlying22 Tryz.sizeOf3 rfl rfl rfl ?_
     intro b51 o52 h53
     refine V_y (Y_load (El.int h53) Tryz.isAgg3 rfl) rfl rfl rfl ?_
     refine V_as rfl rfl ?_
     refine V_as rfl rfl ?_
     refine V_to (fun _ _ => rfl) ?_
     refine C_block ?_
     refine C_seq ?_
     refine C_region ?_
     refine V_mv rfl rfl ?_
     refine V_call Tryz.call9 rfl rfl rfl rfl (know_within_c w9 x50 1 3000000) ?_
     rintro _ _ ⟨rfl, rfl⟩
     refine V_y (Y_not rfl) rfl rfl rfl ?_
     refine V_as rfl rfl ?_
     refine V_to (fun _ _ => rfl) ?_
     refine C_cond rfl (fun hc54 => ?_) (fun hc54 => ?_)
     ·rw [if_pos hc54] at h42
      refine C_seq ?_
      refine C_region ?_
      refine V_as rfl rfl ?_
      refine V_to (fun _ _ => rfl) ?_
      obtain rfl := Option.some.inj h42
      obtain rfl := (h43 : Lp.rt _ = _)
      rw [Lp.andThen_rt] at hm
      obtain rfl := Option.some.inj hm
      refine C_ret ?_
      try simp only [↓inBlock_ret, ↓then_ret]
      exact retQ rfl (Res.one Tryz.results7 rfl) ⟨rfl, hK.kp⟩
     ·rw [if_neg (nt hc54)] at h42
      refine C_seq ?_
      refine C_region ?_
      refine V_mv rfl rfl ?_
      refine V_y (Y_gtr rfl rfl) rfl rfl rfl ?_
      refine V_mv rfl rfl ?_
      obtain ⟨s56, hs56, h42⟩ := Option.bind_eq_some_iff.1 h42
      refine V_cut 9 (fun _ : Unit => [(1, .pointer (some ⟨b7, 0, none⟩)), (3, .int .i64 (k35 : Int)), (21, v29), (22, .int .i64 (x.ids.length : Int)), (23, .int .i64 (k35 : Int)), (44, .bool s56)]) (fun _ w' => w9 = w') ?_ ?_
      ·simp only [List.take, List.drop]
       rcases Bool.eq_false_or_eq_true (decide ((0 : Int) < (k35 : Int))) with hc55 | hc55
       ·rw [if_pos hc55] at hs56
        refine V_ge rfl rfl rfl hc55 ?_
        refine V_mv rfl rfl ?_
        refine V_ge rfl rfl rfl hc55 ?_
        have h57 := El_know_Index_0 h11
        refine V_y (Y_fieldAddr Tryz.underlying25 rfl Tryz.sizeOf22 (by decide) rfl) rfl rfl rfl ?_
        refine V_ge rfl rfl rfl hc55 ?_
        obtain ⟨v58, h59, h60⟩ := El.list h57
        refine V_y (Y_load h59 Tryz.isAgg22 rfl) rfl rfl rfl ?_
        refine V_ge rfl rfl rfl hc55 ?_
        refine V_mv rfl rfl ?_
        refine V_ge rfl rfl rfl hc55 ?_
        refine V_y (Y_subI rfl rfl) rfl rfl rfl ?_
        refine V_ge rfl rfl rfl hc55 ?_
        obtain ⟨x61, hx61, hs56⟩ := Option.bind_eq_some_iff.1 hs56
        refine V_indexAddr h60 hx61 Tryz.underlying22 Tryz.sizeOf3 rfl rfl rfl ?_
        intro b62 o63 h64
        refine V_ge rfl rfl rfl hc55 ?_
        refine V_y (Y_load (El.int h64) Tryz.isAgg3 rfl) rfl rfl rfl ?_
        refine V_ge rfl rfl rfl hc55 ?_
        refine V_y (Y_leq rfl rfl) rfl rfl rfl ?_
        refine V_y (Y_pick_te rfl hc55 rfl) rfl rfl rfl ?_
        obtain rfl := Option.some.inj hs56
        exact V_end fun a ha => ⟨(), ha.sub ⟨rfl, rfl, rfl, rfl, rfl, rfl, trivial⟩, rfl⟩
       ·rw [if_neg (nt hc55)] at hs56
        refine V_gn rfl rfl rfl hc55 rfl rfl rfl ?_
        refine V_gn rfl rfl rfl hc55 rfl rfl rfl ?_
        refine V_gn rfl rfl rfl hc55 rfl rfl rfl ?_
        refine V_gn rfl rfl rfl hc55 rfl rfl rfl ?_
        refine V_gn rfl rfl rfl hc55 rfl rfl rfl ?_
        refine V_gn rfl rfl rfl hc55 rfl rfl rfl ?_
        refine V_gn rfl rfl rfl hc55 rfl rfl rfl ?_
        refine V_gn rfl rfl rfl hc55 rfl rfl rfl ?_
        refine V_y (Y_pick_fe rfl hc55 rfl) rfl rfl rfl ?_
        obtain rfl := Option.some.inj hs56
        exact V_end fun a ha => ⟨(), ha.sub ⟨rfl, rfl, rfl, rfl, rfl, rfl, trivial⟩, rfl⟩
      simp only [List.take, List.drop]
      rintro _ _ rfl
      refine V_as rfl rfl ?_
      refine V_to (fun _ _ => rfl) ?_
      refine C_cond rfl (fun hc65 => ?_) (fun hc65 => ?_)
      ·rw [if_pos hc65] at h42
       refine C_seq ?_
       refine C_region ?_
       refine V_as rfl rfl ?_
       refine V_to (fun _ _ => rfl) ?_
       obtain rfl := Option.some.inj h42
       obtain rfl := (h43 : Lp.rt _ = _)
       rw [Lp.andThen_rt] at hm
       obtain rfl := Option.some.inj hm
       refine C_ret ?_
       try simp only [↓inBlock_ret, ↓then_ret]
       exact retQ rfl (Res.one Tryz.results7 rfl) ⟨rfl, hK.kp⟩
      ·rw [if_neg (nt hc65)] at h42
       refine C_seq ?_
       refine C_region ?_
       have h66 := El_know_Index_1 h11
       refine V_y (Y_fieldAddr Tryz.underlying25 rfl Tryz.sizeOf22 (by decide) rfl) rfl rfl rfl ?_
       obtain ⟨v67, h68, h69⟩ := El.list h66
       refine V_y (Y_load h68 Tryz.isAgg22 rfl) rfl rfl rfl ?_
       refine V_mv rfl rfl ?_
       obtain ⟨x70, hx70, h42⟩ := Option.bind_eq_some_iff.1 h42
       refine V_indexAddr h69 hx70 Tryz.underlying22 Tryz.sizeOf3 rfl rfl rfl ?_
       intro b71 o72 h73
       refine V_y (Y_load (El.int h73) Tryz.isAgg3 rfl) rfl rfl rfl ?_
       refine V_call Tryz.call9 rfl rfl rfl rfl (know_within_c w9 x70 0 20000) ?_
       rintro _ _ ⟨rfl, rfl⟩
       refine V_y (Y_not rfl) rfl rfl rfl ?_
       refine V_as rfl rfl ?_
       refine V_to (fun _ _ => rfl) ?_
       refine C_cond rfl (fun hc74 => ?_) (fun hc74 => ?_)
       ·rw [if_pos hc74] at h42
        refine C_seq ?_
        refine C_region ?_
        refine V_as rfl rfl ?_
        refine V_to (fun _ _ => rfl) ?_
        obtain rfl := Option.some.inj h42
        obtain rfl := (h43 : Lp.rt _ = _)
        rw [Lp.andThen_rt] at hm
        obtain rfl := Option.some.inj hm
        refine C_ret ?_
        try simp only [↓inBlock_ret, ↓then_ret]
        exact retQ rfl (Res.one Tryz.results7 rfl) ⟨rfl, hK.kp⟩
       ·rw [if_neg (nt hc74)] at h42
        refine C_skip_to (fun _ _ => rfl) ?_
        refine C_region ?_
        refine V_y (Y_addI rfl rfl) rfl rfl rfl ?_
        refine V_mv rfl rfl ?_
        obtain rfl := Option.some.inj h42
        refine V_end (fun a ha75 => ?_)
        exact ⟨(), hlt45, h43, ⟨(), ha75.sub ⟨rfl, rfl, rfl, (congrArg (fun z => some (Value.int .i64 z)) (w64_succ hlt45 hn48)), trivial⟩, rfl⟩⟩
    ·refine C_exit (fun a ha76 => ?_)
     exact ⟨(), ha76.sub ⟨rfl, trivial⟩, ⟨(h46 (eq_of_dec hle44 hc49)).symm, rfl⟩⟩
   rintro s33 _ ⟨rfl, rfl⟩ a ha38
   rw [Lp.andThen_fin] at hm
   refine C_at (n := ⟨103, [], none⟩) (fun _ _ => rfl) ?_ ha38
   refine C_seq ?_
   refine C_seq ?_
   refine C_region ?_
   have h78 := El_know_Index_2 h11
   refine V_y (Y_fieldAddr Tryz.underlying25 rfl Tryz.sizeOf23 (by decide) rfl) rfl rfl rfl ?_
   obtain ⟨v79, h80, h81⟩ := El.list h78
   refine V_y (Y_load h80 Tryz.isAgg23 rfl) rfl rfl rfl ?_
   refine V_y (Y_lenSl h81 rfl Tryz.underlying23 rfl) rfl rfl rfl ?_
   refine V_mv rfl rfl ?_
   refine V_to (fun _ _ => rfl) ?_
   have hn102 := Sl.le h81
   obtain ⟨o82, ho82, hm⟩ := Option.bind_eq_some_iff.1 hm
   refine C_cutG (ι := (Unit × (Nat → Prop))) (fun ⟨s83, A89⟩ => []) (fun ⟨s83, A89⟩ => fun w' => o82 = .fin s83 ∧ Hp w.heap.size A89 w' ([]) ∧ Tr Dw w.heap.size A w9 A89 w') ?_ ?_
   ·refine C_block ?_
    refine C_range ho82 (fun k85 _ a w' => ∃ i : (Nat → Prop), Has ⟨103, [], none⟩ a ([(1, .pointer (some ⟨b7, 0, none⟩)), (55, v79), (56, .int .i64 (x.terms.length : Int)), (57, .int .i64 (k85 : Int))]) ∧ Hp w.heap.size i w' ([]) ∧ Tr Dw w.heap.size A w9 i w') (fun a ha => ⟨A, ha.sub ⟨rfl, rfl, rfl, rfl, trivial⟩, ⟨hH, Tr.refl (Dw := Dw) hA⟩⟩) ?_
    rintro K k85 _ a w92 ⟨A93, ha182, hH94, hr84⟩ hle98 K101 h100
    refine C_of ?_ ha182
    replace h11 := El.tr h11 hr84
    replace h81 := Sl.tr h81 hr84
    replace hK := Tr.trans hK hr84
    replace hB := Nat.le_trans hB hr84.ex.size
    replace hA := hr84.new
    replace hH : Hp w.heap.size A93 w92 ([]) := hH94
    refine C_seq (C_region (V_y (Y_lss rfl rfl) rfl rfl rfl (V_to (fun _ _ => rfl) ?_)))
    refine C_seq ?_
    refine C_cond rfl (fun hc103 => ?_) (fun hc103 => ?_)
    ·have hlt99 := lt_of_dec hc103
     obtain ⟨x95, h96, h97⟩ := K101 hlt99
     refine C_skip_to (fun _ _ => rfl) ?_
     refine C_seq ?_
     refine C_block ?_
     refine C_seq ?_
     refine C_region ?_
     refine V_mv rfl rfl ?_
     obtain ⟨x104, hx104, h96⟩ := Option.bind_eq_some_iff.1 h96
     refine V_indexAddr h81 hx104 Tryz.underlying23 Tryz.sizeOf51 rfl rfl rfl ?_
     intro b105 o106 h107
     obtain ⟨v108, h110, h109⟩ := El_know_Term h107
     refine V_y (Y_loadA h110 Tryz.isAgg51 Tryz.sizeOf51 rfl) rfl rfl rfl ?_
     refine V_alloc Tryz.zeroValue51 rfl ?_
     intro b111 w112 h113
     refine V_as rfl rfl ?_
     have h118 : (v108).oneCell' = true := by obtain ⟨_, _, e, _⟩ := Sl.form h109; rw [e]; rfl
     refine V_storeNew h113 Tryz.sizeOf51 rfl rfl rfl rfl (by exact (List.forall_mem_cons.2 ⟨rfl, (List.forall_mem_cons.2 ⟨h118, (fun _ h => nomatch h)⟩)⟩)) ?_
     intro w114 h115
     have hk120 := h115.kp (Dw := Dw)
     have h119 : El (α := know_Term) A93 w114 b111 0 x104 := h115.el hA ⟨[.string x104.word], _, rfl, rfl, ⟨_, rfl, h109⟩⟩
     have ht121 := Kp.tr hk120 hA hB
     replace hH := Hp.kp hH hk120
     replace h11 := El.tr h11 ht121
     replace hK := Tr.trans hK ht121
     replace hr84 := Tr.trans hr84 ht121
     replace hB := Nat.le_trans hB ht121.ex.size
     replace hA := ht121.new
     refine V_to (fun _ _ => rfl) ?_
     refine C_seq ?_
     refine C_seq ?_
     refine C_region ?_
     have h122 := El_know_Term_0 h119
     refine V_y (Y_fieldAddr Tryz.underlying51 rfl Tryz.sizeOf9 (by decide) rfl) rfl rfl rfl ?_
     refine V_y (Y_load (El.str h122) Tryz.isAgg9 rfl) rfl rfl rfl ?_
     obtain ⟨x123, hx123, h96⟩ := Option.bind_eq_some_iff.1 h96
     refine V_call Tryz.call22 rfl rfl rfl rfl (know_Words_c (Dw := Dw) w114 hA x104.word hx123) ?_
     rintro v124 w126 ⟨_, rfl, h125, hk127⟩
     obtain ⟨A128, ht129, hH130⟩ := Hp.addOwnd (Dw := Dw) hH hB hA hk127 h125
     replace h11 := El.tr h11 ht129
     replace h119 := El.tr h119 ht129
     replace hK := Tr.trans hK ht129
     replace hr84 := Tr.trans hr84 ht129
     replace hB := Nat.le_trans hB ht129.ex.size
     replace hA := ht129.new
     replace hH : Hp w.heap.size A128 w126 (obS (α := ByteArray) 9 v124 x123 :: []) := hH130
     refine V_as rfl rfl ?_
     refine V_to (fun _ _ => rfl) ?_
     refine C_seq ?_
     refine C_region_q (Dw := Dw) Tryz_mixed (by kernel_rfl) ?_
     refine VQ_y (fun w' hw' => Y_move rfl) rfl rfl rfl ?_
     refine VQ_y (fun w' hw' => Y_lenSl (Hp.any (α := ByteArray) (e := 9) (v := v124) (l := x123) hH (i := 0) rfl) rfl Tryz.underlying42 rfl) rfl rfl rfl ?_
     refine VQ_y (fun w' hw' => Y_neq rfl rfl) rfl rfl rfl ?_
     refine VQ_y (fun w' hw' => Y_move rfl) rfl rfl rfl ?_
     obtain ⟨s132, hs132, h96⟩ := Option.bind_eq_some_iff.1 h96
     refine VQ_cut 7 (fun _ : Unit => [(1, .pointer (some ⟨b7, 0, none⟩)), (5, .int .i64 (k85 : Int)), (6, .pointer (some ⟨b111, 0, none⟩)), (55, v79), (56, .int .i64 (x.terms.length : Int)), (57, .int .i64 (k85 : Int)), (75, .bool s132)]) (fun _ => True) ?_ ?_
     ·simp only [List.take, List.drop]
      rcases Bool.eq_false_or_eq_true ((x123.length : Int) != 1) with hc131 | hc131
      ·rw [if_pos hc131] at hs132
       refine VQ_gn rfl rfl rfl hc131 rfl rfl rfl ?_
       refine VQ_gn rfl rfl rfl hc131 rfl rfl rfl ?_
       refine VQ_gn rfl rfl rfl hc131 rfl rfl rfl ?_
       refine VQ_gn rfl rfl rfl hc131 rfl rfl rfl ?_
       refine VQ_gn rfl rfl rfl hc131 rfl rfl rfl ?_
       refine VQ_gn rfl rfl rfl hc131 rfl rfl rfl ?_
       refine VQ_y (fun _ _ => Y_pick_te rfl hc131 rfl) rfl rfl rfl ?_
       obtain rfl := Option.some.inj hs132
       exact VQ_end fun a ha => ⟨(), ha.sub ⟨rfl, rfl, rfl, rfl, rfl, rfl, rfl, trivial⟩, trivial⟩
      ·rw [if_neg (nt hc131)] at hs132
       refine VQ_ge rfl rfl rfl hc131 ?_
       refine VQ_y (fun w' hw' => Y_move rfl) rfl rfl rfl ?_
       refine VQ_ge rfl rfl rfl hc131 ?_
       obtain ⟨x133, hx133, hs132⟩ := Option.bind_eq_some_iff.1 hs132
       refine VQ_indexAddrH (α := ByteArray) (e := 9) (v := v124) (l := x123) hH (i := 0) rfl hx133 Tryz.underlying42 Tryz.sizeOf9 rfl rfl rfl ?_
       intro b134 o135 h136 hl137
       refine VQ_ge rfl rfl rfl hc131 ?_
       refine VQ_y (fun w' hw' => Y_load (El.str (El.kp (Dw := Dw) h136 hw')) Tryz.isAgg9 rfl) rfl rfl rfl ?_
       refine VQ_ge rfl rfl rfl hc131 ?_
       have h138 := El_know_Term_0 h119
       refine VQ_y (fun w' hw' => Y_fieldAddr Tryz.underlying51 rfl Tryz.sizeOf9 (by decide) rfl) rfl rfl rfl ?_
       refine VQ_ge rfl rfl rfl hc131 ?_
       refine VQ_y (fun w' hw' => Y_load (El.str (El.kp (Dw := Dw) h138 hw')) Tryz.isAgg9 rfl) rfl rfl rfl ?_
       refine VQ_ge rfl rfl rfl hc131 ?_
       refine VQ_y (fun w' hw' => Y_sneq rfl rfl) rfl rfl rfl ?_
       refine VQ_y (fun _ _ => Y_pick_fe rfl hc131 rfl) rfl rfl rfl ?_
       obtain rfl := Option.some.inj hs132
       exact VQ_end fun a ha => ⟨(), ha.sub ⟨rfl, rfl, rfl, rfl, rfl, rfl, rfl, trivial⟩, trivial⟩
     simp only [List.take, List.drop]
     rintro _ _
     refine VQ_y (fun w' hw' => Y_move rfl) rfl rfl rfl ?_
     refine VQ_cut 5 (fun _ : Unit => [(1, .pointer (some ⟨b7, 0, none⟩)), (5, .int .i64 (k85 : Int)), (6, .pointer (some ⟨b111, 0, none⟩)), (55, v79), (56, .int .i64 (x.terms.length : Int)), (57, .int .i64 (k85 : Int)), (81, .bool (s132 || ((x104.list_.length : Int) == 0)))]) (fun _ => True) ?_ ?_
     ·simp only [List.take, List.drop]
      rcases Bool.eq_false_or_eq_true (s132) with hc139 | hc139
      ·refine VQ_gn rfl rfl rfl hc139 rfl rfl rfl ?_
       refine VQ_gn rfl rfl rfl hc139 rfl rfl rfl ?_
       refine VQ_gn rfl rfl rfl hc139 rfl rfl rfl ?_
       refine VQ_gn rfl rfl rfl hc139 rfl rfl rfl ?_
       refine VQ_y (fun _ _ => Y_pick_te rfl hc139 rfl) rfl rfl rfl ?_
       exact VQ_end fun a ha => ⟨(), ha.sub ⟨rfl, rfl, rfl, rfl, rfl, rfl, (by rw [hc139]; rfl), trivial⟩, trivial⟩
      ·refine VQ_ge rfl rfl rfl hc139 ?_
       have h141 := El_know_Term_1 h119
       refine VQ_y (fun w' hw' => Y_fieldAddr Tryz.underlying51 rfl Tryz.sizeOf49 (by decide) rfl) rfl rfl rfl ?_
       refine VQ_ge rfl rfl rfl hc139 ?_
       obtain ⟨v142, h143, h144⟩ := El.list h141
       refine VQ_y (fun w' hw' => Y_load ((World.cell?_of_block (hw'.block _ (World.block_lt_of_cell? _ _ h143))).trans h143) Tryz.isAgg49 rfl) rfl rfl rfl ?_
       refine VQ_ge rfl rfl rfl hc139 ?_
       refine VQ_y (fun w' hw' => Y_lenSl h144 rfl Tryz.underlying49 rfl) rfl rfl rfl ?_
       refine VQ_ge rfl rfl rfl hc139 ?_
       refine VQ_y (fun w' hw' => Y_eql rfl rfl) rfl rfl rfl ?_
       refine VQ_y (fun _ _ => Y_pick_fe rfl hc139 rfl) rfl rfl rfl ?_
       exact VQ_end fun a ha => ⟨(), ha.sub ⟨rfl, rfl, rfl, rfl, rfl, rfl, (by rw [hc139]; rfl), trivial⟩, trivial⟩
     simp only [List.take, List.drop]
     rintro _ _
     refine VQ_to (fun _ _ => rfl) (fun w145 hk146 => ?_)
     have ht147 := Kp.tr hk146 hA hB
     replace hH := Hp.kp hH hk146
     replace h11 := El.tr h11 ht147
     replace h119 := El.tr h119 ht147
     replace hK := Tr.trans hK ht147
     replace hr84 := Tr.trans hr84 ht147
     replace hB := Nat.le_trans hB ht147.ex.size
     replace hA := ht147.new
     refine C_cond rfl (fun hc148 => ?_) (fun hc148 => ?_)
     ·rw [if_pos hc148] at h96
      refine C_seq ?_
      refine C_region ?_
      refine V_as rfl rfl ?_
      refine V_to (fun _ _ => rfl) ?_
      obtain rfl := Option.some.inj h96
      obtain rfl := (h97 : Lp.rt _ = _)
      rw [Lp.andThen_rt] at hm
      obtain rfl := Option.some.inj hm
      refine C_ret ?_
      try simp only [↓inBlock_ret, ↓then_ret]
      exact retQ rfl (Res.one Tryz.results7 rfl) ⟨rfl, hK.kp⟩
     ·rw [if_neg (nt hc148)] at h96
      refine C_skip_to (fun _ _ => rfl) ?_
      refine C_seq ?_
      refine C_seq ?_
      refine C_region_q (Dw := Dw) Tryz_mixed (by kernel_rfl) ?_
      refine VQ_y (fun w' hw' => Y_move rfl) rfl rfl rfl ?_
      refine VQ_y (fun w' hw' => Y_gtr rfl rfl) rfl rfl rfl ?_
      refine VQ_y (fun w' hw' => Y_move rfl) rfl rfl rfl ?_
      obtain ⟨s150, hs150, h96⟩ := Option.bind_eq_some_iff.1 h96
      refine VQ_cut 11 (fun _ : Unit => [(1, .pointer (some ⟨b7, 0, none⟩)), (6, .pointer (some ⟨b111, 0, none⟩)), (55, v79), (56, .int .i64 (x.terms.length : Int)), (57, .int .i64 (k85 : Int)), (95, .bool s150)]) (fun _ => True) ?_ ?_
      ·simp only [List.take, List.drop]
       rcases Bool.eq_false_or_eq_true (decide ((0 : Int) < (k85 : Int))) with hc149 | hc149
       ·rw [if_pos hc149] at hs150
        refine VQ_ge rfl rfl rfl hc149 ?_
        have h151 := El_know_Term_0 h119
        refine VQ_y (fun w' hw' => Y_fieldAddr Tryz.underlying51 rfl Tryz.sizeOf9 (by decide) rfl) rfl rfl rfl ?_
        refine VQ_ge rfl rfl rfl hc149 ?_
        refine VQ_y (fun w' hw' => Y_load (El.str (El.kp (Dw := Dw) h151 hw')) Tryz.isAgg9 rfl) rfl rfl rfl ?_
        refine VQ_ge rfl rfl rfl hc149 ?_
        have h152 := El_know_Index_2 h11
        refine VQ_y (fun w' hw' => Y_fieldAddr Tryz.underlying25 rfl Tryz.sizeOf23 (by decide) rfl) rfl rfl rfl ?_
        refine VQ_ge rfl rfl rfl hc149 ?_
        obtain ⟨v153, h154, h155⟩ := El.list h152
        refine VQ_y (fun w' hw' => Y_load ((World.cell?_of_block (hw'.block _ (World.block_lt_of_cell? _ _ h154))).trans h154) Tryz.isAgg23 rfl) rfl rfl rfl ?_
        refine VQ_ge rfl rfl rfl hc149 ?_
        refine VQ_y (fun w' hw' => Y_move rfl) rfl rfl rfl ?_
        refine VQ_ge rfl rfl rfl hc149 ?_
        refine VQ_y (fun w' hw' => Y_subI rfl rfl) rfl rfl rfl ?_
        refine VQ_ge rfl rfl rfl hc149 ?_
        obtain ⟨x156, hx156, hs150⟩ := Option.bind_eq_some_iff.1 hs150
        refine VQ_indexAddr h155 hx156 Tryz.underlying23 Tryz.sizeOf51 rfl rfl rfl ?_
        intro b157 o158 h159
        refine VQ_ge rfl rfl rfl hc149 ?_
        have h160 := El_know_Term_0 h159
        refine VQ_y (fun w' hw' => Y_fieldAddr Tryz.underlying51 rfl Tryz.sizeOf9 (by decide) rfl) rfl rfl rfl ?_
        refine VQ_ge rfl rfl rfl hc149 ?_
        refine VQ_y (fun w' hw' => Y_load (El.str (El.kp (Dw := Dw) h160 hw')) Tryz.isAgg9 rfl) rfl rfl rfl ?_
        refine VQ_ge rfl rfl rfl hc149 ?_
        refine VQ_y (fun w' hw' => Y_sleq rfl rfl) rfl rfl rfl ?_
        refine VQ_y (fun _ _ => Y_pick_te rfl hc149 rfl) rfl rfl rfl ?_
        obtain rfl := Option.some.inj hs150
        exact VQ_end fun a ha => ⟨(), ha.sub ⟨rfl, rfl, rfl, rfl, rfl, rfl, trivial⟩, trivial⟩
       ·rw [if_neg (nt hc149)] at hs150
        refine VQ_gn rfl rfl rfl hc149 rfl rfl rfl ?_
        refine VQ_gn rfl rfl rfl hc149 rfl rfl rfl ?_
        refine VQ_gn rfl rfl rfl hc149 rfl rfl rfl ?_
        refine VQ_gn rfl rfl rfl hc149 rfl rfl rfl ?_
        refine VQ_gn rfl rfl rfl hc149 rfl rfl rfl ?_
        refine VQ_gn rfl rfl rfl hc149 rfl rfl rfl ?_
        refine VQ_gn rfl rfl rfl hc149 rfl rfl rfl ?_
        refine VQ_gn rfl rfl rfl hc149 rfl rfl rfl ?_
        refine VQ_gn rfl rfl rfl hc149 rfl rfl rfl ?_
        refine VQ_gn rfl rfl rfl hc149 rfl rfl rfl ?_
        refine VQ_y (fun _ _ => Y_pick_fe rfl hc149 rfl) rfl rfl rfl ?_
        obtain rfl := Option.some.inj hs150
        exact VQ_end fun a ha => ⟨(), ha.sub ⟨rfl, rfl, rfl, rfl, rfl, rfl, trivial⟩, trivial⟩
      simp only [List.take, List.drop]
      rintro _ _
      refine VQ_to (fun _ _ => rfl) (fun w161 hk162 => ?_)
      have ht163 := Kp.tr hk162 hA hB
      replace hH := Hp.kp hH hk162
      replace h11 := El.tr h11 ht163
      replace h119 := El.tr h119 ht163
      replace hK := Tr.trans hK ht163
      replace hr84 := Tr.trans hr84 ht163
      replace hB := Nat.le_trans hB ht163.ex.size
      replace hA := ht163.new
      refine C_cond rfl (fun hc164 => ?_) (fun hc164 => ?_)
      ·rw [if_pos hc164] at h96
       refine C_seq ?_
       refine C_region ?_
       refine V_as rfl rfl ?_
       refine V_to (fun _ _ => rfl) ?_
       obtain rfl := Option.some.inj h96
       obtain rfl := (h97 : Lp.rt _ = _)
       rw [Lp.andThen_rt] at hm
       obtain rfl := Option.some.inj hm
       refine C_ret ?_
       try simp only [↓inBlock_ret, ↓then_ret]
       exact retQ rfl (Res.one Tryz.results7 rfl) ⟨rfl, hK.kp⟩
      ·rw [if_neg (nt hc164)] at h96
       refine C_skip_to (fun _ _ => rfl) ?_
       refine C_seq ?_
       refine C_region ?_
       obtain ⟨v165, v167, v169, h171, h166, h168, h170⟩ := El_know_Index h11
       refine V_y (Y_loadA h171 Tryz.isAgg25 Tryz.sizeOf25 rfl) rfl rfl rfl ?_
       obtain ⟨v172, h174, h173⟩ := El_know_Term h119
       refine V_y (Y_loadA h174 Tryz.isAgg51 Tryz.sizeOf51 rfl) rfl rfl rfl ?_
       obtain ⟨x175, hx175, h96⟩ := Option.bind_eq_some_iff.1 h96
       refine V_call Tryz.call23 rfl rfl rfl rfl (know_Index_checkTerm_c (Dw := Dw) w161 hA x v165 h166 v167 h168 v169 h170 x104 v172 h173 hx175) ?_
       rintro _ w176 ⟨rfl, hk177⟩
       have ht178 := Kp.tr hk177 hA hB
       replace hH := Hp.kp hH hk177
       replace hK := Tr.trans hK ht178
       replace hr84 := Tr.trans hr84 ht178
       refine V_as rfl rfl ?_
       refine V_to (fun _ _ => rfl) ?_
       refine C_seq ?_
       refine C_region ?_
       refine V_mv rfl rfl ?_
       refine V_y (Y_neq rfl rfl) rfl rfl rfl ?_
       refine V_to (fun _ _ => rfl) ?_
       refine C_cond rfl (fun hc179 => ?_) (fun hc179 => ?_)
       ·rw [if_pos hc179] at h96
        refine C_seq ?_
        refine C_region ?_
        refine V_mv rfl rfl ?_
        refine V_as rfl rfl ?_
        refine V_to (fun _ _ => rfl) ?_
        obtain rfl := Option.some.inj h96
        obtain rfl := (h97 : Lp.rt _ = _)
        rw [Lp.andThen_rt] at hm
        obtain rfl := Option.some.inj hm
        refine C_ret ?_
        try simp only [↓inBlock_ret, ↓then_ret]
        exact retQ rfl (Res.one Tryz.results7 rfl) ⟨rfl, hK.kp⟩
       ·rw [if_neg (nt hc179)] at h96
        refine C_skip_to (fun _ _ => rfl) ?_
        refine C_region ?_
        refine V_y (Y_addI rfl rfl) rfl rfl rfl ?_
        refine V_mv rfl rfl ?_
        obtain rfl := Option.some.inj h96
        refine V_end (fun a ha180 => ?_)
        replace hH : Hp w.heap.size A128 w176 ([]) := Hp.drop hH (i := 0) rfl
        exact ⟨(), hlt99, h97, ⟨A128, ha180.sub ⟨rfl, rfl, rfl, (congrArg (fun z => some (Value.int .i64 z)) (w64_succ hlt99 hn102)), trivial⟩, ⟨hH, hr84⟩⟩⟩
    ·refine C_exit (fun a ha181 => ?_)
     exact ⟨((), A93), ha181.sub trivial, ⟨(h100 (eq_of_dec hle98 hc103)).symm, hH, hr84⟩⟩
   rintro ⟨s83, A89⟩ w86 ⟨rfl, hH90, hk87⟩ a ha88
   rw [Lp.andThen_fin] at hm
   replace hK := Tr.trans hK hk87
   replace hA := hk87.new
   replace hH : Hp w.heap.size A89 w86 ([]) := hH90
   refine C_at (n := ⟨103, [], none⟩) (fun _ _ => rfl) ?_ ha88
   refine C_seq ?_
   refine C_region ?_
   refine V_as rfl rfl ?_
   refine V_to (fun _ _ => rfl) ?_
   obtain rfl := Option.some.inj hm
   refine C_ret ?_
   try simp only [↓inBlock_ret, ↓then_ret]
   exact retQ rfl (Res.one Tryz.results7 rfl) ⟨rfl, hK.kp⟩

def Tryz_strings_Join_lay_ren : Go.Shelf.Ren := ⟨fun | 156 => 24 | 165 => 56 | 166 => 57 | 169 => 58 | 240 => 83 | 241 => 84 | 276 => 103 | 277 => 104 | n => n, fun | 0 => 0 | 1 => 1 | 2 => 2 | 3 => 3 | 4 => 4 | 5 => 5 | 6 => 6 | 7 => 7 | 8 => 8 | 9 => 9 | 10 => 10 | 11 => 11 | 12 => 12 | 13 => 13 | 14 => 14 | 15 => 15 | 16 => 16 | 17 => 17 | 18 => 18 | 19 => 19 | 20 => 20 | 21 => 21 | 22 => 61 | 23 => 118 | 27 => 105 | 28 => 22 | 29 => 87 | 30 => 80 | 31 => 42 | 37 => 95 | 40 => 159 | 41 => 90 | 43 => 77 | 46 => 74 | 47 => 73 | 51 => 114 | 52 => 113 | 53 => 116 | 54 => 115 | 55 => 158 | 63 => 149 | 64 => 153 | 67 => 59 | 68 => 57 | 69 => 63 | 70 => 94 | 71 => 96 | 72 => 97 | 73 => 98 | 74 => 99 | 75 => 100 | 76 => 101 | 77 => 102 | 80 => 103 | 81 => 166 | 104 => 89 | 105 => 147 | 106 => 148 | 111 => 108 | 112 => 120 | 114 => 160 | 115 => 132 | 116 => 133 | 117 => 134 | 118 => 135 | 119 => 154 | 122 => 131 | 123 => 136 | 124 => 137 | 127 => 122 | 131 => 91 | 137 => 155 | 138 => 156 | 139 => 157 | 164 => 138 | 165 => 139 | 166 => 140 | 182 => 125 | 183 => 126 | 218 => 141 | 219 => 142 | 220 => 143 | 222 => 145 | 228 => 150 | 229 => 151 | 238 => 161 | 239 => 162 | 240 => 163 | 241 => 164 | 242 => 165 | 243 => 167 | 244 => 168 | 245 => 169 | 246 => 170 | 247 => 171 | 248 => 172 | 249 => 173 | n => n, fun | 1 => 0 | 3 => 1 | 4 => 2 | n => n⟩
theorem Tryz_strings_Join_lay : Go.Proofs.Lays.n156 Tryz.prog Tryz_strings_Join_lay_ren := {
 mixed := by kernel_rfl,
 f156 := Tryz.func24.trans (congrArg some (by kernel_rfl)),
 f165 := Tryz.func56.trans (congrArg some (by kernel_rfl)),
 f166 := Tryz.func57.trans (congrArg some (by kernel_rfl)),
 f169 := Tryz.func58.trans (congrArg some (by kernel_rfl)),
 f240 := Tryz.func83.trans (congrArg some (by kernel_rfl)),
 f241 := Tryz.func84.trans (congrArg some (by kernel_rfl)),
 f276 := Tryz.func103.trans (congrArg some (by kernel_rfl)),
 f277 := Tryz.func104.trans (congrArg some (by kernel_rfl)),
 t0 := Tryz.underlying0,
 a0 := Tryz.isAgg0,
 z0 := Tryz.sizeOf0,
 v0 := Tryz.zeroValue0,
 t3 := Tryz.underlying3,
 a3 := Tryz.isAgg3,
 z3 := Tryz.sizeOf3,
 v3 := Tryz.zeroValue3,
 t4 := Tryz.underlying4,
 a4 := Tryz.isAgg4,
 z4 := Tryz.sizeOf4,
 v4 := Tryz.zeroValue4,
 t9 := Tryz.underlying9,
 a9 := Tryz.isAgg9,
 z9 := Tryz.sizeOf9,
 v9 := Tryz.zeroValue9,
 t20 := Tryz.underlying20,
 a20 := Tryz.isAgg20,
 z20 := Tryz.sizeOf20,
 v20 := Tryz.zeroValue20,
 t31 := Tryz.underlying42,
 a31 := Tryz.isAgg42,
 z31 := Tryz.sizeOf42,
 v31 := Tryz.zeroValue42,
 t37 := Tryz.underlying95,
 a37 := Tryz.isAgg95,
 z37 := Tryz.sizeOf95,
 v37 := Tryz.zeroValue95,
 t70 := Tryz.underlying94,
 a70 := Tryz.isAgg94,
 z70 := Tryz.sizeOf94,
 v70 := Tryz.zeroValue94,
 t72 := Tryz.underlying97,
 a72 := Tryz.isAgg97,
 z72 := Tryz.sizeOf97,
 v72 := Tryz.zeroValue97,
 t75 := Tryz.underlying100,
 a75 := Tryz.isAgg100,
 z75 := Tryz.sizeOf100,
 v75 := Tryz.zeroValue100,
 t76 := Tryz.underlying101,
 a76 := Tryz.isAgg101,
 z76 := Tryz.sizeOf101,
 v76 := Tryz.zeroValue101,
 t127 := Tryz.underlying122,
 a127 := Tryz.isAgg122,
 z127 := Tryz.sizeOf122,
 v127 := Tryz.zeroValue122,
 t164 := Tryz.underlying138,
 a164 := Tryz.isAgg138,
 z164 := Tryz.sizeOf138,
 v164 := Tryz.zeroValue138 }
theorem Tryz_strings_Join_lay_x : Go.Proofs.Builder.Extra Tryz.prog Tryz_strings_Join_lay_ren := {
 sizeBuilder := by kernel_rfl
 liesBuilder := by kernel_rfl
 t5 := Tryz.underlying5
 a5 := Tryz.isAgg5
 z5 := Tryz.sizeOf5
 v5 := Tryz.zeroValue5
 infoByte := by kernel_rfl
 cellsByte := by kernel_rfl
 sizeByte := by kernel_rfl
 neB5 := (by decide : (97 : Nat) ≠ 5) }
theorem strings_Join_c (w : World) {A : Nat → Prop} (hA : ∀ b, w.heap.size ≤ b → A b) (elems : List ByteArray) (v_e : Value) (h_e : Sl A w v_e elems) (sep : ByteArray) {r : ByteArray} (hm : strings_Join elems sep = some r) : Ret Tryz.prog 24 #[v_e, .string sep] w fun v w' => v = .string r ∧ Kp False w w' := by
 unfold strings_Join at hm
 split at hm
 case isFalse => cases hm
 rename_i h
 obtain rfl := Option.some.inj hm
 exact join_wrap h_e (fun a c => Go.Proofs.Any.strings_Join_none Tryz_strings_Join_lay Tryz_strings_Join_lay_x a c sep w) (fun bk o c h1 h2 h3 => Go.Proofs.Any.strings_Join Tryz_strings_Join_lay Tryz_strings_Join_lay_x bk o c elems sep w h1 h2 h.1 h3 h.2)

set_option maxRecDepth 4000 in
set_option maxHeartbeats 4000000 in
theorem know_QueryText_c (w : World) {A : Nat → Prop} (hA : ∀ b, w.heap.size ≤ b → A b) (q : know_Query) (v_q : Value) (h_q : Sl A w v_q q.parts) {r : (ByteArray × Int)} (hm : know_QueryText q = some r) : Ret Tryz.prog 8 #[.agg #[v_q]] w fun v w' => v = .tuple #[.string r.1, .int .i64 r.2] ∧ Kp False w w' := by
 unfold know_QueryText at hm
 refine enter Tryz.func8 rfl Tryz.ntmps8 rfl ?_
 have hA0 := hA
 have hB := Nat.le_refl w.heap.size
 have hK : Tr False w.heap.size A w A w := Tr.refl (Dw := False) hA
 have hH : Hp w.heap.size A w [] := Hp.nil
 refine C_seq ?_
 refine C_region ?_
 refine V_box rfl rfl ?_
 intro b3 w4 h5
 have hk7 := h5.kp (Dw := False)
 have h6 : El (α := know_Query) A w4 b3 0 q := h5.el hA ⟨_, rfl, h_q⟩
 have ht8 := Kp.tr (Dw := False) hk7 hA hB
 replace hH := Hp.kp (Dw := False) hH hk7
 replace hK := Tr.trans (Dw := False) hK ht8
 replace hB := Nat.le_trans hB ht8.ex.size
 replace hA := ht8.new
 refine V_as rfl rfl ?_
 refine V_as rfl rfl ?_
 refine V_to (fun _ _ => rfl) ?_
 refine C_seq ?_
 refine C_seq ?_
 refine C_region ?_
 have h9 := El_know_Query_0 h6
 refine V_y (Y_fieldAddr Tryz.underlying28 rfl Tryz.sizeOf26 (by decide) rfl) rfl rfl rfl ?_
 obtain ⟨v10, h11, h12⟩ := El.list h9
 refine V_y (Y_load h11 Tryz.isAgg26 rfl) rfl rfl rfl ?_
 refine V_y (Y_lenSl h12 rfl Tryz.underlying26 rfl) rfl rfl rfl ?_
 refine V_y (Y_gtr rfl rfl) rfl rfl rfl ?_
 refine V_to (fun _ _ => rfl) ?_
 refine C_cond rfl (fun hc13 => ?_) (fun hc13 => ?_)
 ·rw [if_pos hc13] at hm
  refine C_seq ?_
  refine C_region ?_
  refine V_as rfl rfl ?_
  refine V_as rfl rfl ?_
  refine V_to (fun _ _ => rfl) ?_
  obtain rfl := Option.some.inj hm
  refine C_ret ?_
  try simp only [↓inBlock_ret, ↓then_ret]
  exact retQ rfl (Res.two Tryz.results8 rfl rfl) ⟨rfl, hK.kp⟩
 ·rw [if_neg (nt hc13)] at hm
  refine C_skip_to (fun _ _ => rfl) ?_
  refine C_seq ?_
  refine C_region ?_
  refine V_as rfl rfl ?_
  refine V_to (fun _ _ => rfl) ?_
  refine C_seq ?_
  refine C_seq ?_
  refine C_region ?_
  have h14 := El_know_Query_0 h6
  refine V_y (Y_fieldAddr Tryz.underlying28 rfl Tryz.sizeOf26 (by decide) rfl) rfl rfl rfl ?_
  obtain ⟨v15, h16, h17⟩ := El.list h14
  refine V_y (Y_load h16 Tryz.isAgg26 rfl) rfl rfl rfl ?_
  refine V_y (Y_lenSl h17 rfl Tryz.underlying26 rfl) rfl rfl rfl ?_
  refine V_mv rfl rfl ?_
  refine V_to (fun _ _ => rfl) ?_
  replace hH : Hp w.heap.size A w4 (obS (α := ByteArray) 9 (.slice none 0 0) ([] : (List ByteArray)) :: []) := Hp.addNil (α := ByteArray) (e := 9) hH
  have hn42 := Sl.le h17
  obtain ⟨o18, ho18, hm⟩ := Option.bind_eq_some_iff.1 hm
  refine C_cutG (ι := ((List ByteArray) × Value × (Nat → Prop))) (fun ⟨s19, v25, A27⟩ => [(4, v25)]) (fun ⟨s19, v25, A27⟩ => fun w' => o18 = .fin s19 ∧ Hp w.heap.size A27 w' (obS (α := ByteArray) 9 v25 s19 :: []) ∧ Tr False w.heap.size A w4 A27 w') ?_ ?_
  ·refine C_block ?_
   refine C_range ho18 (fun k21 s29 a w' => ∃ i : (Value × (Nat → Prop)), Has ⟨93, [], none⟩ a ([(4, i.1), (17, v15), (18, .int .i64 (q.parts.length : Int)), (19, .int .i64 (k21 : Int))]) ∧ Hp w.heap.size i.2 w' (obS (α := ByteArray) 9 i.1 s29 :: []) ∧ Tr False w.heap.size A w4 i.2 w') (fun a ha => ⟨(.slice none 0 0, A), ha.sub ⟨rfl, rfl, rfl, rfl, trivial⟩, ⟨hH, Tr.refl (Dw := False) hA⟩⟩) ?_
   rintro K k21 s29 a w30 ⟨⟨v31, A33⟩, ha189, hH34, hr20⟩ hle38 K41 h40
   refine C_of ?_ ha189
   replace h17 := Sl.tr (Dw := False) h17 hr20
   replace hK := Tr.trans (Dw := False) hK hr20
   replace hB := Nat.le_trans hB hr20.ex.size
   replace hA := hr20.new
   replace hH : Hp w.heap.size A33 w30 (obS (α := ByteArray) 9 v31 s29 :: []) := hH34
   refine C_seq (C_region (V_y (Y_lss rfl rfl) rfl rfl rfl (V_to (fun _ _ => rfl) ?_)))
   refine C_seq ?_
   refine C_cond rfl (fun hc43 => ?_) (fun hc43 => ?_)
   ·have hlt39 := lt_of_dec hc43
    obtain ⟨x35, h36, h37⟩ := K41 hlt39
    refine C_skip_to (fun _ _ => rfl) ?_
    refine C_seq ?_
    refine C_block ?_
    refine C_seq ?_
    refine C_region ?_
    obtain ⟨x44, hx44, h36⟩ := Option.bind_eq_some_iff.1 h36
    refine V_indexAddr h17 hx44 Tryz.underlying26 Tryz.sizeOf44 rfl rfl rfl ?_
    intro b45 o46 h47
    obtain ⟨v48, h50, h49⟩ := El_know_Part h47
    refine V_y (Y_loadA h50 Tryz.isAgg44 Tryz.sizeOf44 rfl) rfl rfl rfl ?_
    refine V_alloc Tryz.zeroValue44 rfl ?_
    intro b51 w52 h53
    have h58 : (v48).oneCell' = true := by obtain ⟨_, _, e, _⟩ := Sl.form h49; rw [e]; rfl
    refine V_storeNew h53 Tryz.sizeOf44 rfl rfl rfl rfl (by exact (List.forall_mem_cons.2 ⟨rfl, (List.forall_mem_cons.2 ⟨rfl, (List.forall_mem_cons.2 ⟨h58, (fun _ h => nomatch h)⟩)⟩)⟩)) ?_
    intro w54 h55
    have hk60 := h55.kp (Dw := False)
    have h59 : El (α := know_Part) A33 w54 b51 0 x44 := h55.el hA ⟨[.int .i64 x44.kind], _, rfl, rfl, ⟨[.bool x44.not_], _, rfl, rfl, ⟨_, rfl, h49⟩⟩⟩
    have ht61 := Kp.tr (Dw := False) hk60 hA hB
    replace hH := Hp.kp (Dw := False) hH hk60
    replace hK := Tr.trans (Dw := False) hK ht61
    replace hr20 := Tr.trans (Dw := False) hr20 ht61
    replace hB := Nat.le_trans hB ht61.ex.size
    replace hA := ht61.new
    refine V_to (fun _ _ => rfl) ?_
    refine C_seq ?_
    refine C_seq ?_
    refine C_region ?_
    have h62 := El_know_Part_0 h59
    refine V_y (Y_fieldAddr Tryz.underlying44 rfl Tryz.sizeOf3 (by decide) rfl) rfl rfl rfl ?_
    refine V_y (Y_load (El.int h62) Tryz.isAgg3 rfl) rfl rfl rfl ?_
    refine V_call Tryz.call9 rfl rfl rfl rfl (know_within_c w54 x44.kind 0 2) ?_
    rintro _ _ ⟨rfl, rfl⟩
    refine V_y (Y_not rfl) rfl rfl rfl ?_
    refine V_mv rfl rfl ?_
    refine V_cut 5 (fun _ : Unit => [(4, v31), (6, .pointer (some ⟨b51, 0, none⟩)), (17, v15), (18, .int .i64 (q.parts.length : Int)), (19, .int .i64 (k21 : Int)), (32, .bool ((!(know_within x44.kind 0 2)) || ((x44.words.length : Int) == 0)))]) (fun _ w' => w54 = w') ?_ ?_
    ·simp only [List.take, List.drop]
     rcases Bool.eq_false_or_eq_true (!(know_within x44.kind 0 2)) with hc63 | hc63
     ·refine V_gn rfl rfl rfl hc63 rfl rfl rfl ?_
      refine V_gn rfl rfl rfl hc63 rfl rfl rfl ?_
      refine V_gn rfl rfl rfl hc63 rfl rfl rfl ?_
      refine V_gn rfl rfl rfl hc63 rfl rfl rfl ?_
      refine V_y (Y_pick_te rfl hc63 rfl) rfl rfl rfl ?_
      exact V_end fun a ha => ⟨(), ha.sub ⟨rfl, rfl, rfl, rfl, rfl, (by rw [hc63]; rfl), trivial⟩, rfl⟩
     ·refine V_ge rfl rfl rfl hc63 ?_
      have h65 := El_know_Part_2 h59
      refine V_y (Y_fieldAddr Tryz.underlying44 rfl Tryz.sizeOf42 (by decide) rfl) rfl rfl rfl ?_
      refine V_ge rfl rfl rfl hc63 ?_
      obtain ⟨v66, h67, h68⟩ := El.list h65
      refine V_y (Y_load h67 Tryz.isAgg42 rfl) rfl rfl rfl ?_
      refine V_ge rfl rfl rfl hc63 ?_
      refine V_y (Y_lenSl h68 rfl Tryz.underlying42 rfl) rfl rfl rfl ?_
      refine V_ge rfl rfl rfl hc63 ?_
      refine V_y (Y_eql rfl rfl) rfl rfl rfl ?_
      refine V_y (Y_pick_fe rfl hc63 rfl) rfl rfl rfl ?_
      exact V_end fun a ha => ⟨(), ha.sub ⟨rfl, rfl, rfl, rfl, rfl, (by rw [hc63]; rfl), trivial⟩, rfl⟩
    simp only [List.take, List.drop]
    rintro _ _ rfl
    refine V_mv rfl rfl ?_
    refine V_cut 10 (fun _ : Unit => [(4, v31), (6, .pointer (some ⟨b51, 0, none⟩)), (17, v15), (18, .int .i64 (q.parts.length : Int)), (19, .int .i64 (k21 : Int)), (43, .bool (((!(know_within x44.kind 0 2)) || ((x44.words.length : Int) == 0)) || ((x44.kind != 1) && (decide ((1 : Int) < (x44.words.length : Int))))))]) (fun _ w' => w54 = w') ?_ ?_
    ·simp only [List.take, List.drop]
     rcases Bool.eq_false_or_eq_true (((!(know_within x44.kind 0 2)) || ((x44.words.length : Int) == 0))) with hc69 | hc69
     ·refine V_gn rfl rfl rfl hc69 rfl rfl rfl ?_
      refine V_gn rfl rfl rfl hc69 rfl rfl rfl ?_
      refine V_gn rfl rfl rfl hc69 rfl rfl rfl ?_
      refine V_gn rfl rfl rfl hc69 rfl rfl rfl ?_
      refine V_gu rfl rfl rfl rfl rfl ?_
      refine V_gu rfl rfl rfl rfl rfl ?_
      refine V_gu rfl rfl rfl rfl rfl ?_
      refine V_gu rfl rfl rfl rfl rfl ?_
      refine V_gn rfl rfl rfl hc69 rfl rfl rfl ?_
      refine V_y (Y_pick_te rfl hc69 rfl) rfl rfl rfl ?_
      exact V_end fun a ha => ⟨(), ha.sub ⟨rfl, rfl, rfl, rfl, rfl, (by rw [hc69]; rfl), trivial⟩, rfl⟩
     ·refine V_ge rfl rfl rfl hc69 ?_
      have h71 := El_know_Part_0 h59
      refine V_y (Y_fieldAddr Tryz.underlying44 rfl Tryz.sizeOf3 (by decide) rfl) rfl rfl rfl ?_
      refine V_ge rfl rfl rfl hc69 ?_
      refine V_y (Y_load (El.int h71) Tryz.isAgg3 rfl) rfl rfl rfl ?_
      refine V_ge rfl rfl rfl hc69 ?_
      refine V_y (Y_neq rfl rfl) rfl rfl rfl ?_
      refine V_ge rfl rfl rfl hc69 ?_
      refine V_mv rfl rfl ?_
      refine V_cut 5 (fun _ : Unit => [(4, v31), (6, .pointer (some ⟨b51, 0, none⟩)), (17, v15), (18, .int .i64 (q.parts.length : Int)), (19, .int .i64 (k21 : Int)), (33, .bool ((!(know_within x44.kind 0 2)) || ((x44.words.length : Int) == 0))), (42, .bool ((x44.kind != 1) && (decide ((1 : Int) < (x44.words.length : Int)))))]) (fun _ w' => w54 = w') ?_ ?_
      ·simp only [List.take, List.drop]
       rcases Bool.eq_false_or_eq_true (x44.kind != 1) with hc72 | hc72
       ·refine V_ge rfl rfl rfl hc72 ?_
        have h74 := El_know_Part_2 h59
        refine V_y (Y_fieldAddr Tryz.underlying44 rfl Tryz.sizeOf42 (by decide) rfl) rfl rfl rfl ?_
        refine V_ge rfl rfl rfl hc72 ?_
        obtain ⟨v75, h76, h77⟩ := El.list h74
        refine V_y (Y_load h76 Tryz.isAgg42 rfl) rfl rfl rfl ?_
        refine V_ge rfl rfl rfl hc72 ?_
        refine V_y (Y_lenSl h77 rfl Tryz.underlying42 rfl) rfl rfl rfl ?_
        refine V_ge rfl rfl rfl hc72 ?_
        refine V_y (Y_gtr rfl rfl) rfl rfl rfl ?_
        refine V_ge rfl rfl rfl hc69 ?_
        refine V_y (Y_pick_te rfl hc72 rfl) rfl rfl rfl ?_
        exact V_end fun a ha => ⟨(), ha.sub ⟨rfl, rfl, rfl, rfl, rfl, rfl, (by rw [hc72]; rfl), trivial⟩, rfl⟩
       ·refine V_gn rfl rfl rfl hc72 rfl rfl rfl ?_
        refine V_gn rfl rfl rfl hc72 rfl rfl rfl ?_
        refine V_gn rfl rfl rfl hc72 rfl rfl rfl ?_
        refine V_gn rfl rfl rfl hc72 rfl rfl rfl ?_
        refine V_ge rfl rfl rfl hc69 ?_
        refine V_y (Y_pick_fe rfl hc72 rfl) rfl rfl rfl ?_
        exact V_end fun a ha => ⟨(), ha.sub ⟨rfl, rfl, rfl, rfl, rfl, rfl, (by rw [hc72]; rfl), trivial⟩, rfl⟩
      simp only [List.take, List.drop]
      rintro _ _ rfl
      refine V_y (Y_pick_fe rfl hc69 rfl) rfl rfl rfl ?_
      exact V_end fun a ha => ⟨(), ha.sub ⟨rfl, rfl, rfl, rfl, rfl, (by rw [hc69]; rfl), trivial⟩, rfl⟩
    simp only [List.take, List.drop]
    rintro _ _ rfl
    refine V_to (fun _ _ => rfl) ?_
    refine C_cond rfl (fun hc78 => ?_) (fun hc78 => ?_)
    ·rw [if_pos hc78] at h36
     refine C_seq ?_
     refine C_region ?_
     refine V_as rfl rfl ?_
     refine V_as rfl rfl ?_
     refine V_to (fun _ _ => rfl) ?_
     obtain rfl := Option.some.inj h36
     obtain rfl := (h37 : Lp.rt _ = _)
     rw [Lp.andThen_rt] at hm
     obtain rfl := Option.some.inj hm
     refine C_ret ?_
     try simp only [↓inBlock_ret, ↓then_ret]
     exact retQ rfl (Res.two Tryz.results8 rfl rfl) ⟨rfl, hK.kp⟩
    ·rw [if_neg (nt hc78)] at h36
     refine C_skip_to (fun _ _ => rfl) ?_
     refine C_seq ?_
     refine C_seq ?_
     refine C_region ?_
     have h79 := El_know_Part_2 h59
     refine V_y (Y_fieldAddr Tryz.underlying44 rfl Tryz.sizeOf42 (by decide) rfl) rfl rfl rfl ?_
     obtain ⟨v80, h81, h82⟩ := El.list h79
     refine V_y (Y_load h81 Tryz.isAgg42 rfl) rfl rfl rfl ?_
     refine V_y (Y_lenSl h82 rfl Tryz.underlying42 rfl) rfl rfl rfl ?_
     refine V_mv rfl rfl ?_
     refine V_to (fun _ _ => rfl) ?_
     have hn103 := Sl.le h82
     obtain ⟨o83, ho83, h36⟩ := Option.bind_eq_some_iff.1 h36
     refine C_cutG (ι := (Unit × (Nat → Prop))) (fun ⟨s84, A90⟩ => [(4, v31), (6, .pointer (some ⟨b51, 0, none⟩)), (17, v15), (18, .int .i64 (q.parts.length : Int)), (19, .int .i64 (k21 : Int))]) (fun ⟨s84, A90⟩ => fun w' => o83 = .fin s84 ∧ Hp w.heap.size A90 w' (obS (α := ByteArray) 9 v31 s29 :: []) ∧ Tr False w.heap.size A33 w54 A90 w') ?_ ?_
     ·refine C_block ?_
      refine C_range ho83 (fun k86 _ a w' => ∃ i : (Nat → Prop), Has ⟨93, [], none⟩ a ([(4, v31), (6, .pointer (some ⟨b51, 0, none⟩)), (17, v15), (18, .int .i64 (q.parts.length : Int)), (19, .int .i64 (k21 : Int)), (45, v80), (46, .int .i64 (x44.words.length : Int)), (47, .int .i64 (k86 : Int))]) ∧ Hp w.heap.size i w' (obS (α := ByteArray) 9 v31 s29 :: []) ∧ Tr False w.heap.size A33 w54 i w') (fun a ha => ⟨A33, ha.sub ⟨rfl, rfl, rfl, rfl, rfl, rfl, rfl, rfl, trivial⟩, ⟨hH, Tr.refl (Dw := False) hA⟩⟩) ?_
      rintro K k86 _ a w93 ⟨A94, ha127, hH95, hr85⟩ hle99 K102 h101
      refine C_of ?_ ha127
      replace h82 := Sl.tr (Dw := False) h82 hr85
      replace hK := Tr.trans (Dw := False) hK hr85
      replace hB := Nat.le_trans hB hr85.ex.size
      replace hA := hr85.new
      replace hH : Hp w.heap.size A94 w93 (obS (α := ByteArray) 9 v31 s29 :: []) := hH95
      refine C_seq (C_region (V_y (Y_lss rfl rfl) rfl rfl rfl (V_to (fun _ _ => rfl) ?_)))
      refine C_seq ?_
      refine C_cond rfl (fun hc104 => ?_) (fun hc104 => ?_)
      ·have hlt100 := lt_of_dec hc104
       obtain ⟨x96, h97, h98⟩ := K102 hlt100
       refine C_skip_to (fun _ _ => rfl) ?_
       refine C_seq ?_
       refine C_block ?_
       refine C_seq ?_
       refine C_region ?_
       obtain ⟨x105, hx105, h97⟩ := Option.bind_eq_some_iff.1 h97
       refine V_indexAddr h82 hx105 Tryz.underlying42 Tryz.sizeOf9 rfl rfl rfl ?_
       intro b106 o107 h108
       refine V_y (Y_load (El.str h108) Tryz.isAgg9 rfl) rfl rfl rfl ?_
       refine V_as rfl rfl ?_
       refine V_to (fun _ _ => rfl) ?_
       refine C_seq ?_
       refine C_region ?_
       refine V_mv rfl rfl ?_
       obtain ⟨x109, hx109, h97⟩ := Option.bind_eq_some_iff.1 h97
       refine V_call Tryz.call22 rfl rfl rfl rfl (know_Words_c (Dw := False) w93 hA x105 hx109) ?_
       rintro v110 w112 ⟨_, rfl, h111, hk113⟩
       obtain ⟨A114, ht115, hH116⟩ := Hp.addOwnd (Dw := False) hH hB hA hk113 h111
       replace hK := Tr.trans (Dw := False) hK ht115
       replace hr85 := Tr.trans (Dw := False) hr85 ht115
       replace hH : Hp w.heap.size A114 w112 (obS (α := ByteArray) 9 v110 x109 :: obS (α := ByteArray) 9 v31 s29 :: []) := hH116
       refine V_as rfl rfl ?_
       refine V_to (fun _ _ => rfl) ?_
       refine C_seq ?_
       refine C_region ?_
       refine V_mv rfl rfl ?_
       refine V_y (Y_lenSl (Hp.any (α := ByteArray) (e := 9) (v := v110) (l := x109) hH (i := 0) rfl) rfl Tryz.underlying42 rfl) rfl rfl rfl ?_
       refine V_y (Y_neq rfl rfl) rfl rfl rfl ?_
       refine V_mv rfl rfl ?_
       obtain ⟨s118, hs118, h97⟩ := Option.bind_eq_some_iff.1 h97
       refine V_cut 6 (fun _ : Unit => [(4, v31), (6, .pointer (some ⟨b51, 0, none⟩)), (17, v15), (18, .int .i64 (q.parts.length : Int)), (19, .int .i64 (k21 : Int)), (45, v80), (46, .int .i64 (x44.words.length : Int)), (47, .int .i64 (k86 : Int)), (62, .bool s118)]) (fun _ w' => w112 = w') ?_ ?_
       ·simp only [List.take, List.drop]
        rcases Bool.eq_false_or_eq_true ((x109.length : Int) != 1) with hc117 | hc117
        ·rw [if_pos hc117] at hs118
         refine V_gn rfl rfl rfl hc117 rfl rfl rfl ?_
         refine V_gn rfl rfl rfl hc117 rfl rfl rfl ?_
         refine V_gn rfl rfl rfl hc117 rfl rfl rfl ?_
         refine V_gn rfl rfl rfl hc117 rfl rfl rfl ?_
         refine V_gn rfl rfl rfl hc117 rfl rfl rfl ?_
         refine V_y (Y_pick_te rfl hc117 rfl) rfl rfl rfl ?_
         obtain rfl := Option.some.inj hs118
         exact V_end fun a ha => ⟨(), ha.sub ⟨rfl, rfl, rfl, rfl, rfl, rfl, rfl, rfl, rfl, trivial⟩, rfl⟩
        ·rw [if_neg (nt hc117)] at hs118
         refine V_ge rfl rfl rfl hc117 ?_
         refine V_mv rfl rfl ?_
         refine V_ge rfl rfl rfl hc117 ?_
         obtain ⟨x119, hx119, hs118⟩ := Option.bind_eq_some_iff.1 hs118
         refine V_indexAddrH (α := ByteArray) (e := 9) (v := v110) (l := x109) hH (i := 0) rfl hx119 Tryz.underlying42 Tryz.sizeOf9 rfl rfl rfl ?_
         intro b120 o121 h122 hl123
         refine V_ge rfl rfl rfl hc117 ?_
         refine V_y (Y_load (El.str h122) Tryz.isAgg9 rfl) rfl rfl rfl ?_
         refine V_ge rfl rfl rfl hc117 ?_
         refine V_mv rfl rfl ?_
         refine V_ge rfl rfl rfl hc117 ?_
         refine V_y (Y_sneq rfl rfl) rfl rfl rfl ?_
         refine V_y (Y_pick_fe rfl hc117 rfl) rfl rfl rfl ?_
         obtain rfl := Option.some.inj hs118
         exact V_end fun a ha => ⟨(), ha.sub ⟨rfl, rfl, rfl, rfl, rfl, rfl, rfl, rfl, rfl, trivial⟩, rfl⟩
       simp only [List.take, List.drop]
       rintro _ _ rfl
       refine V_to (fun _ _ => rfl) ?_
       refine C_cond rfl (fun hc124 => ?_) (fun hc124 => ?_)
       ·rw [if_pos hc124] at h97
        refine C_seq ?_
        refine C_region ?_
        refine V_as rfl rfl ?_
        refine V_as rfl rfl ?_
        refine V_to (fun _ _ => rfl) ?_
        obtain rfl := Option.some.inj h97
        obtain rfl := (h98 : Lp.rt _ = _)
        rw [Lp.andThen_rt] at h36
        obtain rfl := Option.some.inj h36
        obtain rfl := (h37 : Lp.rt _ = _)
        rw [Lp.andThen_rt] at hm
        obtain rfl := Option.some.inj hm
        refine C_ret ?_
        try simp only [↓inBlock_ret, ↓then_ret]
        exact retQ rfl (Res.two Tryz.results8 rfl rfl) ⟨rfl, hK.kp⟩
       ·rw [if_neg (nt hc124)] at h97
        refine C_skip_to (fun _ _ => rfl) ?_
        refine C_region ?_
        refine V_y (Y_addI rfl rfl) rfl rfl rfl ?_
        refine V_mv rfl rfl ?_
        obtain rfl := Option.some.inj h97
        refine V_end (fun a ha125 => ?_)
        replace hH : Hp w.heap.size A114 w112 (obS (α := ByteArray) 9 v31 s29 :: obS (α := ByteArray) 9 v110 x109 :: []) := Hp.front hH (i := 1) rfl
        replace hH : Hp w.heap.size A114 w112 (obS (α := ByteArray) 9 v31 s29 :: []) := Hp.drop hH (i := 1) rfl
        exact ⟨(), hlt100, h98, ⟨A114, ha125.sub ⟨rfl, rfl, rfl, rfl, rfl, rfl, rfl, (congrArg (fun z => some (Value.int .i64 z)) (w64_succ hlt100 hn103)), trivial⟩, ⟨hH, hr85⟩⟩⟩
      ·refine C_exit (fun a ha126 => ?_)
       exact ⟨((), A94), ha126.sub ⟨rfl, rfl, rfl, rfl, rfl, trivial⟩, ⟨(h101 (eq_of_dec hle99 hc104)).symm, hH, hr85⟩⟩
     rintro ⟨s84, A90⟩ w87 ⟨rfl, hH91, hk88⟩ a ha89
     rw [Lp.andThen_fin] at h36
     replace h59 := El.tr (Dw := False) h59 hk88
     replace hr20 := Tr.trans (Dw := False) hr20 hk88
     replace hB := Nat.le_trans hB hk88.ex.size
     replace hA := hk88.new
     replace hH : Hp w.heap.size A90 w87 (obS (α := ByteArray) 9 v31 s29 :: []) := hH91
     refine C_at (n := ⟨93, [], none⟩) (fun _ _ => rfl) ?_ ha89
     refine C_seq ?_
     refine C_region ?_
     have h128 := El_know_Part_2 h59
     refine V_y (Y_fieldAddr Tryz.underlying44 rfl Tryz.sizeOf42 (by decide) rfl) rfl rfl rfl ?_
     obtain ⟨v129, h130, h131⟩ := El.list h128
     refine V_y (Y_load h130 Tryz.isAgg42 rfl) rfl rfl rfl ?_
     obtain ⟨x132, hx132, h36⟩ := Option.bind_eq_some_iff.1 h36
     refine V_call Tryz.call24 rfl rfl rfl rfl (strings_Join_c w87 hA x44.words v129 h131 (⟨#[32]⟩ : ByteArray) hx132) ?_
     rintro _ w133 ⟨rfl, hk134⟩
     have ht135 := Kp.tr (Dw := False) hk134 hA hB
     replace hH := Hp.kp (Dw := False) hH hk134
     replace h59 := El.tr (Dw := False) h59 ht135
     replace hr20 := Tr.trans (Dw := False) hr20 ht135
     replace hB := Nat.le_trans hB ht135.ex.size
     replace hA := ht135.new
     refine V_as rfl rfl ?_
     refine V_to (fun _ _ => rfl) ?_
     refine C_seq ?_
     refine C_seq ?_
     refine C_region ?_
     have h136 := El_know_Part_0 h59
     refine V_y (Y_fieldAddr Tryz.underlying44 rfl Tryz.sizeOf3 (by decide) rfl) rfl rfl rfl ?_
     refine V_y (Y_load (El.int h136) Tryz.isAgg3 rfl) rfl rfl rfl ?_
     refine V_to (fun _ _ => rfl) ?_
     obtain ⟨s138, ho137, h36⟩ := Option.bind_eq_some_iff.1 h36
     refine C_cutG (ι := Unit) (fun (_ : Unit) => [(4, v31), (6, .pointer (some ⟨b51, 0, none⟩)), (10, .string s138), (17, v15), (18, .int .i64 (q.parts.length : Int)), (19, .int .i64 (k21 : Int))]) (fun (_ : Unit) => fun w' => w133 = w') ?_ ?_
     ·refine C_block ?_
      refine C_seq ?_
      refine C_region ?_
      refine V_y (Y_eql rfl rfl) rfl rfl rfl ?_
      refine V_as rfl rfl ?_
      refine V_to (fun _ _ => rfl) ?_
      obtain ⟨s144, ho143, ho137⟩ := Option.bind_eq_some_iff.1 ho137
      refine C_cutG (ι := Unit) (fun (_ : Unit) => [(4, v31), (6, .pointer (some ⟨b51, 0, none⟩)), (10, .string s144), (17, v15), (18, .int .i64 (q.parts.length : Int)), (19, .int .i64 (k21 : Int))]) (fun (_ : Unit) => fun w' => w133 = w') ?_ ?_
      ·refine C_cond rfl (fun hc149 => ?_) (fun hc149 => ?_)
       ·rw [if_pos hc149] at ho143
        refine C_region ?_
        refine V_mv rfl rfl ?_
        obtain ⟨x150, hx150, ho143⟩ := Option.bind_eq_some_iff.1 ho143
        refine V_y (Y_sadd hx150 rfl rfl) rfl rfl rfl ?_
        obtain ⟨x151, hx151, ho143⟩ := Option.bind_eq_some_iff.1 ho143
        refine V_y (Y_sadd hx151 rfl rfl) rfl rfl rfl ?_
        refine V_as rfl rfl ?_
        obtain rfl := Option.some.inj ho143
        refine V_end (fun a ha152 => ?_)
        exact ⟨(), ha152.sub ⟨rfl, rfl, rfl, rfl, rfl, rfl, trivial⟩, rfl⟩
       ·rw [if_neg (nt hc149)] at ho143
        refine C_seq ?_
        refine C_region ?_
        refine V_y (Y_eql rfl rfl) rfl rfl rfl ?_
        refine V_as rfl rfl ?_
        refine V_to (fun _ _ => rfl) ?_
        obtain ⟨s154, ho153, ho143⟩ := Option.bind_eq_some_iff.1 ho143
        refine C_cutG (ι := Unit) (fun (_ : Unit) => [(4, v31), (6, .pointer (some ⟨b51, 0, none⟩)), (10, .string s154), (17, v15), (18, .int .i64 (q.parts.length : Int)), (19, .int .i64 (k21 : Int))]) (fun (_ : Unit) => fun w' => w133 = w') ?_ ?_
        ·refine C_cond rfl (fun hc159 => ?_) (fun hc159 => ?_)
         ·rw [if_pos hc159] at ho153
          refine C_region ?_
          refine V_mv rfl rfl ?_
          obtain ⟨x160, hx160, ho153⟩ := Option.bind_eq_some_iff.1 ho153
          refine V_y (Y_sadd hx160 rfl rfl) rfl rfl rfl ?_
          refine V_as rfl rfl ?_
          obtain rfl := Option.some.inj ho153
          refine V_end (fun a ha161 => ?_)
          exact ⟨(), ha161.sub ⟨rfl, rfl, rfl, rfl, rfl, rfl, trivial⟩, rfl⟩
         ·rw [if_neg (nt hc159)] at ho153
          obtain rfl := Option.some.inj ho153
          refine C_skip (fun a ha162 => ?_)
          exact ⟨(), ha162.sub ⟨rfl, rfl, rfl, rfl, rfl, rfl, trivial⟩, rfl⟩
        rintro _ _ rfl a ha158
        obtain rfl := Option.some.inj ho143
        exact ⟨(), ha158.sub ⟨rfl, rfl, rfl, rfl, rfl, rfl, trivial⟩, rfl⟩
      rintro _ _ rfl a ha148
      obtain rfl := Option.some.inj ho137
      exact ⟨(), ha148.sub ⟨rfl, rfl, rfl, rfl, rfl, rfl, trivial⟩, rfl⟩
     rintro _ _ rfl a ha142
     refine C_at (n := ⟨93, [], none⟩) (fun _ _ => rfl) ?_ ha142
     refine C_seq ?_
     refine C_seq ?_
     refine C_region ?_
     have h165 := El_know_Part_1 h59
     refine V_y (Y_fieldAddr Tryz.underlying44 rfl Tryz.sizeOf4 (by decide) rfl) rfl rfl rfl ?_
     refine V_y (Y_load (El.bool h165) Tryz.isAgg4 rfl) rfl rfl rfl ?_
     refine V_to (fun _ _ => rfl) ?_
     obtain ⟨s167, ho166, h36⟩ := Option.bind_eq_some_iff.1 h36
     refine C_cutG (ι := Unit) (fun (_ : Unit) => [(4, v31), (10, .string s167), (17, v15), (18, .int .i64 (q.parts.length : Int)), (19, .int .i64 (k21 : Int))]) (fun (_ : Unit) => fun w' => w133 = w') ?_ ?_
     ·refine C_cond rfl (fun hc172 => ?_) (fun hc172 => ?_)
      ·rw [if_pos hc172] at ho166
       refine C_region ?_
       refine V_mv rfl rfl ?_
       obtain ⟨x173, hx173, ho166⟩ := Option.bind_eq_some_iff.1 ho166
       refine V_y (Y_sadd hx173 rfl rfl) rfl rfl rfl ?_
       refine V_as rfl rfl ?_
       obtain rfl := Option.some.inj ho166
       refine V_end (fun a ha174 => ?_)
       exact ⟨(), ha174.sub ⟨rfl, rfl, rfl, rfl, rfl, trivial⟩, rfl⟩
      ·rw [if_neg (nt hc172)] at ho166
       obtain rfl := Option.some.inj ho166
       refine C_skip (fun a ha175 => ?_)
       exact ⟨(), ha175.sub ⟨rfl, rfl, rfl, rfl, rfl, trivial⟩, rfl⟩
     rintro _ _ rfl a ha171
     refine C_at (n := ⟨93, [], none⟩) (fun _ _ => rfl) ?_ ha171
     refine C_region ?_
     refine V_mv rfl rfl ?_
     refine V_mv rfl rfl ?_
     refine V_buildSlice (Dw := False) (l := ([s167] : List ByteArray)) (len := 1) Tryz.underlying42 Tryz.sizeOf9 Tryz.zeroValue9 rfl (by with_unfolding_all rfl) (show (1 * 1 : Nat) ≠ 0 by decide) (show (1 * 1 : Nat) ≤ 2 ^ 24 by decide) hA ⟨[.string s167], _, rfl, rfl, rfl⟩ rfl rfl ?_
     intro v176 w177 hk179 h178
     have ht180 := Kp.tr (Dw := False) hk179 hA hB
     replace hH := Hp.kp (Dw := False) hH hk179
     replace hr20 := Tr.trans (Dw := False) hr20 ht180
     replace hB := Nat.le_trans hB ht180.ex.size
     replace hA := ht180.new
     obtain ⟨x181, hx181, h36⟩ := Option.bind_eq_some_iff.1 h36
     refine V_appendH (Dw := False) (e := 9) (v := v31) (l := s29) (ti := Tryz.t9) (bytes := 16) (lim := 8796093022208) hH (i := 0) rfl h178 hx181 Tryz.underlying42 Tryz_info9 rfl rfl rfl rfl (by decide) (by decide) (by decide) hB hA rfl rfl rfl ?_
     intro v182 w183 A184 hH185 ht186
     replace hr20 := Tr.trans (Dw := False) hr20 ht186
     replace hH : Hp w.heap.size A184 w183 (obS (α := ByteArray) 9 v182 x181 :: []) := hH185
     refine V_as rfl rfl ?_
     refine V_to (fun _ _ => rfl) ?_
     refine C_region ?_
     refine V_y (Y_addI rfl rfl) rfl rfl rfl ?_
     refine V_mv rfl rfl ?_
     obtain rfl := Option.some.inj h36
     refine V_end (fun a ha187 => ?_)
     exact ⟨x181, hlt39, h37, ⟨(v182, A184), ha187.sub ⟨rfl, rfl, rfl, (congrArg (fun z => some (Value.int .i64 z)) (w64_succ hlt39 hn42)), trivial⟩, ⟨hH, hr20⟩⟩⟩
   ·refine C_exit (fun a ha188 => ?_)
    exact ⟨(s29, v31, A33), ha188.sub ⟨rfl, trivial⟩, ⟨(h40 (eq_of_dec hle38 hc43)).symm, hH, hr20⟩⟩
  rintro ⟨s19, v25, A27⟩ w22 ⟨rfl, hH28, hk23⟩ a ha24
  rw [Lp.andThen_fin] at hm
  replace hK := Tr.trans (Dw := False) hK hk23
  replace hB := Nat.le_trans hB hk23.ex.size
  replace hA := hk23.new
  replace hH : Hp w.heap.size A27 w22 (obS (α := ByteArray) 9 v25 s19 :: []) := hH28
  refine C_at (n := ⟨93, [], none⟩) (fun _ _ => rfl) ?_ ha24
  refine C_seq ?_
  refine C_region ?_
  refine V_mv rfl rfl ?_
  obtain ⟨x190, hx190, hm⟩ := Option.bind_eq_some_iff.1 hm
  refine V_call Tryz.call24 rfl rfl rfl rfl (strings_Join_c w22 (A := fun _ => True) (fun _ _ => trivial) s19 v25 (Hp.any (α := ByteArray) (e := 9) (v := v25) (l := s19) hH (i := 0) rfl) (⟨#[32]⟩ : ByteArray) hx190) ?_
  rintro _ w191 ⟨rfl, hk192⟩
  have ht193 := Kp.tr (Dw := False) hk192 hA hB
  replace hK := Tr.trans (Dw := False) hK ht193
  refine V_as rfl rfl ?_
  refine V_to (fun _ _ => rfl) ?_
  refine C_seq ?_
  refine C_seq ?_
  refine C_region ?_
  refine V_mv rfl rfl ?_
  refine V_y (Y_lenStr rfl Tryz.underlying9 rfl) rfl rfl rfl ?_
  refine V_y (Y_gtr rfl rfl) rfl rfl rfl ?_
  refine V_to (fun _ _ => rfl) ?_
  refine C_cond rfl (fun hc194 => ?_) (fun hc194 => ?_)
  ·rw [if_pos hc194] at hm
   refine C_seq ?_
   refine C_region ?_
   refine V_as rfl rfl ?_
   refine V_as rfl rfl ?_
   refine V_to (fun _ _ => rfl) ?_
   obtain rfl := Option.some.inj hm
   refine C_ret ?_
   try simp only [↓inBlock_ret, ↓then_ret]
   exact retQ rfl (Res.two Tryz.results8 rfl rfl) ⟨rfl, hK.kp⟩
  ·rw [if_neg (nt hc194)] at hm
   refine C_skip_to (fun _ _ => rfl) ?_
   refine C_seq ?_
   refine C_region ?_
   refine V_mv rfl rfl ?_
   refine V_as rfl rfl ?_
   refine V_as rfl rfl ?_
   refine V_to (fun _ _ => rfl) ?_
   obtain rfl := Option.some.inj hm
   refine C_ret ?_
   try simp only [↓inBlock_ret, ↓then_ret]
   exact retQ rfl (Res.two Tryz.results8 rfl rfl) ⟨rfl, hK.kp⟩

end Go.Proofs.YtkjlbaacbkdnfaaGreatDoor.W
