/-
  Written by program (gen.py) from the IR of the dump: each function computes its model.
-/
import Derived.Test.YtldkdabcdbgpbaaGreatDoorProg
import Derived.Test.YtldkdabcdbgpbaaGreatDoorGe
import Derived.Test.YtldkdabcdbgpbaaGreatDoorIndexMakesM
import Derived.KernelRfl
import Derived.Test.YtldkdabcdbgpbaaGreatDoorHq
import Derived.Test.YtldkdabcdbgpbaaGreatDoorIa
import Derived.Test.YtldkdabcdbgpbaaGreatDoorHs
import Derived.Shelf.Small.Strs
import Derived.Shelf.Strings.Replace
import Derived.Shelf.Strings.SlTrimAscii
import Derived.Test.YtldkdabcdbgpbaaGreatDoorGi
import Derived.Test.YtldkdabcdbgpbaaGreatDoorHc
import Derived.Test.YtldkdabcdbgpbaaGreatDoorHa
import Derived.Test.YtldkdabcdbgpbaaGreatDoorHz
import Derived.Test.YtldkdabcdbgpbaaGreatDoorGg
import Derived.Test.YtldkdabcdbgpbaaGreatDoorHd
import Derived.Test.YtldkdabcdbgpbaaGreatDoorGv
import Derived.Test.YtldkdabcdbgpbaaGreatDoorHe
import Derived.Test.YtldkdabcdbgpbaaGreatDoorHf
import Derived.Shelf.Slices.In.SortNone
import Derived.Shelf.Sort.Plain
namespace Go.Proofs.YtldkdabcdbgpbaaGreatDoor.W
open Go Go.RowKit Go.Pu Go.Gw Go.Proofs Go.Proofs.YtldkdabcdbgpbaaGreatDoor.M
set_option linter.unusedVariables false
set_option linter.unusedSimpArgs false
variable {Dw : Prop}

theorem Tryz_info3 : Tryz.prog.info? 3 = some Tryz.t3 := by kernel_rfl
theorem Tryz_info9 : Tryz.prog.info? 9 = some Tryz.t9 := by kernel_rfl
theorem Tryz_info83 : Tryz.prog.info? 83 = some Tryz.t83 := by kernel_rfl
theorem Tryz_info86 : Tryz.prog.info? 86 = some Tryz.t86 := by kernel_rfl
theorem Tryz_places26 : ∀ fs, Tryz.prog.underlying 26 = some (.struct fs) → ∀ w : World, (Array.mapM (fun (f : Field) => do pure (f.offset, ← Go.sizeOf f.type)) fs).run Tryz.prog w = .ok #[(0, 1), (1, 1), (2, 1)] w := by
  intro fs h w
  rw [Tryz.underlying26] at h
  cases h
  kernel_rfl
theorem Tryz_places83 : ∀ fs, Tryz.prog.underlying 83 = some (.struct fs) → ∀ w : World, (Array.mapM (fun (f : Field) => do pure (f.offset, ← Go.sizeOf f.type)) fs).run Tryz.prog w = .ok #[(0, 1), (1, 1)] w := by
  intro fs h w
  rw [Tryz.underlying83] at h
  cases h
  kernel_rfl
theorem Tryz_places86 : ∀ fs, Tryz.prog.underlying 86 = some (.struct fs) → ∀ w : World, (Array.mapM (fun (f : Field) => do pure (f.offset, ← Go.sizeOf f.type)) fs).run Tryz.prog w = .ok #[(0, 1), (1, 1), (2, 1)] w := by
  intro fs h w
  rw [Tryz.underlying86] at h
  cases h
  kernel_rfl
theorem Tryz_mixed : Tryz.prog.follows .mixedOrders = true := by kernel_rfl

instance : GoT know_Entry := GoT.of (β := Int × ByteArray × ByteArray) fun x => (x.id_, x.title, x.body)

instance : Flat know_Entry := ⟨fun {A w A1 w1 cs x} h => Flat.flat (α := Int × ByteArray × ByteArray) (x := (x.id_, x.title, x.body)) (A := A) (w := w) h⟩

theorem El_know_Entry_ {A : Nat → Prop} {w : World} {b off : Nat} {x : know_Entry} (h : El A w b off x) : El (α := Int × ByteArray × ByteArray) A w b off (x.id_, x.title, x.body) := h

theorem El_know_Entry_0 {A : Nat → Prop} {w : World} {b off : Nat} {x : know_Entry} (h : El A w b off x) : El A w b (off + 0) x.id_ := El.fst (El_know_Entry_ h)

theorem El_know_Entry_1 {A : Nat → Prop} {w : World} {b off : Nat} {x : know_Entry} (h : El A w b off x) : El A w b (off + 1) x.title := El.fst (El.snd (El_know_Entry_ h))

theorem El_know_Entry_2 {A : Nat → Prop} {w : World} {b off : Nat} {x : know_Entry} (h : El A w b off x) : El A w b (off + 2) x.body := El.snd (El.snd (El_know_Entry_ h))

theorem El_know_Entry {A : Nat → Prop} {w : World} {b off : Nat} {x : know_Entry} (h : El A w b off x) : At w b off [.int .i64 x.id_, .string x.title, .string x.body] ∧ True := by
  obtain ⟨h1, h2, cs, h3, h4⟩ := h
  obtain ⟨_, _, rfl, rfl, ⟨_, _, rfl, rfl, rfl⟩⟩ := h3
  exact ⟨h4, trivial⟩

theorem Rep_know_Entry {A : Nat → Prop} {w : World} {cs : List Value} {x : know_Entry} (h : GoT.rep A w cs x) : cs = [.int .i64 x.id_, .string x.title, .string x.body] ∧ True := by
  obtain ⟨_, _, rfl, rfl, ⟨_, _, rfl, rfl, rfl⟩⟩ := h
  exact ⟨rfl, trivial⟩

instance : GoT know_Posting := GoT.of (β := Int × (List Int) × (List Int)) fun x => (x.id_, x.title, x.body)

theorem El_know_Posting_ {A : Nat → Prop} {w : World} {b off : Nat} {x : know_Posting} (h : El A w b off x) : El (α := Int × (List Int) × (List Int)) A w b off (x.id_, x.title, x.body) := h

theorem El_know_Posting_0 {A : Nat → Prop} {w : World} {b off : Nat} {x : know_Posting} (h : El A w b off x) : El A w b (off + 0) x.id_ := El.fst (El_know_Posting_ h)

theorem El_know_Posting_1 {A : Nat → Prop} {w : World} {b off : Nat} {x : know_Posting} (h : El A w b off x) : El A w b (off + 1) x.title := El.fst (El.snd (El_know_Posting_ h))

theorem El_know_Posting_2 {A : Nat → Prop} {w : World} {b off : Nat} {x : know_Posting} (h : El A w b off x) : El A w b (off + 2) x.body := El.snd (El.snd (El_know_Posting_ h))

theorem El_know_Posting {A : Nat → Prop} {w : World} {b off : Nat} {x : know_Posting} (h : El A w b off x) : ∃ v1 v3, At w b off [.int .i64 x.id_, v1, v3] ∧ Sl A w v1 x.title ∧ Sl A w v3 x.body := by
  obtain ⟨h1, h2, cs, h3, h4⟩ := h
  obtain ⟨_, _, rfl, rfl, ⟨_, _, rfl, ⟨u1, rfl, g1⟩, ⟨u2, rfl, g2⟩⟩⟩ := h3
  exact ⟨u1, u2, h4, g1, g2⟩

theorem ElR_know_Posting {A : Nat → Prop} {w : World} {b off : Nat} {x : know_Posting} (h : ∃ cs, GoT.rep A w cs x ∧ At w b off cs) : ∃ v1 v3, At w b off [.int .i64 x.id_, v1, v3] ∧ Sl A w v1 x.title ∧ Sl A w v3 x.body := by
  obtain ⟨cs, h3, h4⟩ := h
  obtain ⟨_, _, rfl, rfl, ⟨_, _, rfl, ⟨u1, rfl, g1⟩, ⟨u2, rfl, g2⟩⟩⟩ := h3
  exact ⟨u1, u2, h4, g1, g2⟩

theorem Rep_know_Posting {A : Nat → Prop} {w : World} {cs : List Value} {x : know_Posting} (h : GoT.rep A w cs x) : ∃ v1 v3, cs = [.int .i64 x.id_, v1, v3] ∧ Sl A w v1 x.title ∧ Sl A w v3 x.body := by
  obtain ⟨_, _, rfl, rfl, ⟨_, _, rfl, ⟨u1, rfl, g1⟩, ⟨u2, rfl, g2⟩⟩⟩ := h
  exact ⟨u1, u2, rfl, g1, g2⟩

instance : GoT know_Term := GoT.of (β := ByteArray × (List know_Posting)) fun x => (x.word, x.list_)

theorem El_know_Term_ {A : Nat → Prop} {w : World} {b off : Nat} {x : know_Term} (h : El A w b off x) : El (α := ByteArray × (List know_Posting)) A w b off (x.word, x.list_) := h

theorem El_know_Term_0 {A : Nat → Prop} {w : World} {b off : Nat} {x : know_Term} (h : El A w b off x) : El A w b (off + 0) x.word := El.fst (El_know_Term_ h)

theorem El_know_Term_1 {A : Nat → Prop} {w : World} {b off : Nat} {x : know_Term} (h : El A w b off x) : El A w b (off + 1) x.list_ := El.snd (El_know_Term_ h)

theorem El_know_Term {A : Nat → Prop} {w : World} {b off : Nat} {x : know_Term} (h : El A w b off x) : ∃ v1, At w b off [.string x.word, v1] ∧ Sl A w v1 x.list_ := by
  obtain ⟨h1, h2, cs, h3, h4⟩ := h
  obtain ⟨_, _, rfl, rfl, ⟨u1, rfl, g1⟩⟩ := h3
  exact ⟨u1, h4, g1⟩

theorem ElR_know_Term {A : Nat → Prop} {w : World} {b off : Nat} {x : know_Term} (h : ∃ cs, GoT.rep A w cs x ∧ At w b off cs) : ∃ v1, At w b off [.string x.word, v1] ∧ Sl A w v1 x.list_ := by
  obtain ⟨cs, h3, h4⟩ := h
  obtain ⟨_, _, rfl, rfl, ⟨u1, rfl, g1⟩⟩ := h3
  exact ⟨u1, h4, g1⟩

theorem Rep_know_Term {A : Nat → Prop} {w : World} {cs : List Value} {x : know_Term} (h : GoT.rep A w cs x) : ∃ v1, cs = [.string x.word, v1] ∧ Sl A w v1 x.list_ := by
  obtain ⟨_, _, rfl, rfl, ⟨u1, rfl, g1⟩⟩ := h
  exact ⟨u1, rfl, g1⟩

instance : GoT know_Index := GoT.of (β := (List Int) × (List Int) × (List know_Term)) fun x => (x.ids, x.sizes, x.terms)

theorem El_know_Index_ {A : Nat → Prop} {w : World} {b off : Nat} {x : know_Index} (h : El A w b off x) : El (α := (List Int) × (List Int) × (List know_Term)) A w b off (x.ids, x.sizes, x.terms) := h

theorem El_know_Index_0 {A : Nat → Prop} {w : World} {b off : Nat} {x : know_Index} (h : El A w b off x) : El A w b (off + 0) x.ids := El.fst (El_know_Index_ h)

theorem El_know_Index_1 {A : Nat → Prop} {w : World} {b off : Nat} {x : know_Index} (h : El A w b off x) : El A w b (off + 1) x.sizes := El.fst (El.snd (El_know_Index_ h))

theorem El_know_Index_2 {A : Nat → Prop} {w : World} {b off : Nat} {x : know_Index} (h : El A w b off x) : El A w b (off + 2) x.terms := El.snd (El.snd (El_know_Index_ h))

theorem El_know_Index {A : Nat → Prop} {w : World} {b off : Nat} {x : know_Index} (h : El A w b off x) : ∃ v1 v3 v5, At w b off [v1, v3, v5] ∧ Sl A w v1 x.ids ∧ Sl A w v3 x.sizes ∧ Sl A w v5 x.terms := by
  obtain ⟨h1, h2, cs, h3, h4⟩ := h
  obtain ⟨_, _, rfl, ⟨u1, rfl, g1⟩, ⟨_, _, rfl, ⟨u2, rfl, g2⟩, ⟨u3, rfl, g3⟩⟩⟩ := h3
  exact ⟨u1, u2, u3, h4, g1, g2, g3⟩

theorem ElR_know_Index {A : Nat → Prop} {w : World} {b off : Nat} {x : know_Index} (h : ∃ cs, GoT.rep A w cs x ∧ At w b off cs) : ∃ v1 v3 v5, At w b off [v1, v3, v5] ∧ Sl A w v1 x.ids ∧ Sl A w v3 x.sizes ∧ Sl A w v5 x.terms := by
  obtain ⟨cs, h3, h4⟩ := h
  obtain ⟨_, _, rfl, ⟨u1, rfl, g1⟩, ⟨_, _, rfl, ⟨u2, rfl, g2⟩, ⟨u3, rfl, g3⟩⟩⟩ := h3
  exact ⟨u1, u2, u3, h4, g1, g2, g3⟩

theorem Rep_know_Index {A : Nat → Prop} {w : World} {cs : List Value} {x : know_Index} (h : GoT.rep A w cs x) : ∃ v1 v3 v5, cs = [v1, v3, v5] ∧ Sl A w v1 x.ids ∧ Sl A w v3 x.sizes ∧ Sl A w v5 x.terms := by
  obtain ⟨_, _, rfl, ⟨u1, rfl, g1⟩, ⟨_, _, rfl, ⟨u2, rfl, g2⟩, ⟨u3, rfl, g3⟩⟩⟩ := h
  exact ⟨u1, u2, u3, rfl, g1, g2, g3⟩


def Tryz_contains_lay_ren : Go.Shelf.Ren := ⟨fun | 15 => 137 | 17 => 107 | 20 => 170 | n => n, fun | 0 => 0 | 1 => 1 | 2 => 2 | 3 => 3 | 4 => 4 | 5 => 5 | 6 => 6 | 7 => 7 | 8 => 8 | 9 => 9 | 10 => 10 | 11 => 11 | 12 => 12 | 13 => 13 | 14 => 14 | 15 => 15 | 16 => 16 | 17 => 17 | 18 => 18 | 19 => 19 | 20 => 20 | 21 => 21 | 23 => 205 | 24 => 182 | 26 => 228 | 27 => 262 | 28 => 204 | 29 => 265 | 30 => 261 | 31 => 237 | 32 => 238 | 33 => 198 | 34 => 276 | 35 => 191 | 36 => 277 | 37 => 278 | 38 => 279 | 39 => 239 | 40 => 284 | 41 => 285 | 42 => 286 | 43 => 287 | 44 => 288 | 45 => 289 | 46 => 219 | 47 => 290 | 48 => 291 | 49 => 292 | 50 => 264 | 51 => 293 | 52 => 294 | 53 => 295 | 54 => 296 | 55 => 272 | n => n, fun | 0 => 1 | 1 => 2 | n => n⟩
theorem Tryz_contains_lay : Go.Proofs.LaysGw.n17 Tryz.prog Tryz_contains_lay_ren := {
  mixed := by kernel_rfl,
  f15 := Tryz.func137.trans (congrArg some (by kernel_rfl)),
  f17 := Tryz.func107.trans (congrArg some (by kernel_rfl)),
  f20 := Tryz.func170.trans (congrArg some (by kernel_rfl)),
  t0 := Tryz.underlying0,
  a0 := Tryz.isAgg0,
  z0 := Tryz.sizeOf0,
  v0 := Tryz.zeroValue0,
  i0 := by kernel_rfl,
  t3 := Tryz.underlying3,
  a3 := Tryz.isAgg3,
  z3 := Tryz.sizeOf3,
  v3 := Tryz.zeroValue3,
  i3 := by kernel_rfl,
  t4 := Tryz.underlying4,
  a4 := Tryz.isAgg4,
  z4 := Tryz.sizeOf4,
  v4 := Tryz.zeroValue4,
  i4 := by kernel_rfl,
  t9 := Tryz.underlying9,
  a9 := Tryz.isAgg9,
  z9 := Tryz.sizeOf9,
  v9 := Tryz.zeroValue9,
  i9 := by kernel_rfl,
  t21 := Tryz.underlying21,
  a21 := Tryz.isAgg21,
  z21 := Tryz.sizeOf21,
  v21 := Tryz.zeroValue21,
  i21 := by kernel_rfl,
  t23 := Tryz.underlying205,
  a23 := Tryz.isAgg205,
  z23 := Tryz.sizeOf205,
  v23 := Tryz.zeroValue205,
  i23 := by kernel_rfl }

set_option maxRecDepth 4000 in
set_option maxHeartbeats 4000000 in
theorem know_within_c (w : World) (n : Int) (low : Int) (high : Int) : Ret Tryz.prog 64 #[.int .i64 n, .int .i64 low, .int .i64 high] w fun v w' => v = .bool (know_within n low high) ∧ w = w' := by
  generalize hm : know_within n low high = r
  unfold know_within at hm
  refine enter Tryz.func64 rfl Tryz.ntmps64 rfl ?_
  refine C_seq ?_
  refine C_region ?_
  refine V_y (Y_assign rfl) rfl rfl rfl ?_
  refine V_to (fun _ _ => rfl) ?_
  refine C_seq ?_
  refine C_region ?_
  refine V_y (Y_move rfl) rfl rfl rfl ?_
  refine V_y (Y_move rfl) rfl rfl rfl ?_
  refine V_y (Y_geq rfl rfl) rfl rfl rfl ?_
  refine V_y (Y_move rfl) rfl rfl rfl ?_
  refine V_cut 4 (fun _ : Unit => [(14, .bool ((decide (low ≤ n)) && (decide (n ≤ high))))]) (fun _ w' => w = w') ?_ ?_
  · simp only [List.take, List.drop]
    rcases Bool.eq_false_or_eq_true (decide (low ≤ n)) with hc1 | hc1
    · refine V_ge rfl rfl rfl hc1 ?_
      refine V_y (Y_move rfl) rfl rfl rfl ?_
      refine V_ge rfl rfl rfl hc1 ?_
      refine V_y (Y_move rfl) rfl rfl rfl ?_
      refine V_ge rfl rfl rfl hc1 ?_
      refine V_y (Y_leq rfl rfl) rfl rfl rfl ?_
      refine V_y (Y_pick_te rfl hc1 rfl) rfl rfl rfl ?_
      exact V_end fun a ha => ⟨(), ha.sub ⟨(by rw [hc1]; rfl), trivial⟩, rfl⟩
    · refine V_gn rfl rfl rfl hc1 rfl rfl rfl ?_
      refine V_gn rfl rfl rfl hc1 rfl rfl rfl ?_
      refine V_gn rfl rfl rfl hc1 rfl rfl rfl ?_
      refine V_y (Y_pick_fe rfl hc1 rfl) rfl rfl rfl ?_
      exact V_end fun a ha => ⟨(), ha.sub ⟨(by rw [hc1]; rfl), trivial⟩, rfl⟩
  simp only [List.take, List.drop]
  rintro _ _ rfl
  refine V_y (Y_assign rfl) rfl rfl rfl ?_
  refine V_to (fun _ _ => rfl) ?_
  obtain rfl := hm
  refine C_ret ?_
  try simp only [↓inBlock_ret, ↓then_ret]
  exact retQ rfl (Res.one Tryz.results64 rfl) ⟨rfl, rfl⟩

set_option maxRecDepth 4000 in
set_option maxHeartbeats 4000000 in
theorem know_plain_c (w : World) (s : ByteArray) (feeds : Bool) {r : Bool} (hm : know_plain s feeds = some r) : Ret Tryz.prog 102 #[.string s, .bool feeds] w fun v w' => v = .bool r ∧ w = w' := by
  unfold know_plain at hm
  refine enter Tryz.func102 rfl Tryz.ntmps102 rfl ?_
  refine C_seq ?_
  refine C_region ?_
  refine V_y (Y_assign rfl) rfl rfl rfl ?_
  refine V_to (fun _ _ => rfl) ?_
  refine C_seq ?_
  refine C_seq ?_
  refine C_region ?_
  refine V_y (Y_move rfl) rfl rfl rfl ?_
  refine V_y (Y_lenStr rfl Tryz.underlying9 rfl) rfl rfl rfl ?_
  refine V_y (Y_move rfl) rfl rfl rfl ?_
  refine V_to (fun _ _ => rfl) ?_
  obtain ⟨o1, ho1, hm⟩ := Option.bind_eq_some_iff.1 hm
  refine C_cutG (ι := Int) (fun (s2 : Int) => []) (fun (s2 : Int) => fun w' => o1 = .fin s2 ∧ w = w') ?_ ?_
  · refine C_block ?_
    refine C_while ho1 (fun s8 a w' => ∃ i : Unit, Has ⟨32, [], none⟩ a ([(0, .string s), (1, .bool feeds), (7, .int .i64 (s.size : Int)), (8, .int .i64 s8)]) ∧ w = w') (fun a ha => ⟨(), ha.sub ⟨rfl, rfl, rfl, rfl, trivial⟩, rfl⟩) ?_
    rintro K s8 a _ ⟨_, ha28, rfl⟩ K16
    refine C_of ?_ ha28
    obtain ⟨x10, h11, h12⟩ := K16
    refine C_seq ?_
    refine C_region ?_
    refine V_y (Y_lss rfl rfl) rfl rfl rfl ?_
    refine V_to (fun _ _ => rfl) ?_
    refine C_seq ?_
    refine C_cond rfl (fun hc17 => ?_) (fun hc17 => ?_)
    · rw [if_pos hc17] at h11
      refine C_skip_to (fun _ _ => rfl) ?_
      refine C_seq ?_
      refine C_block ?_
      refine C_seq ?_
      refine C_region ?_
      refine V_y (Y_move rfl) rfl rfl rfl ?_
      refine V_y (Y_assign rfl) rfl rfl rfl ?_
      refine V_to (fun _ _ => rfl) ?_
      refine C_seq ?_
      refine C_region ?_
      refine V_y (Y_move rfl) rfl rfl rfl ?_
      refine V_y (Y_move rfl) rfl rfl rfl ?_
      obtain ⟨x18, hx18, h11⟩ := Option.bind_eq_some_iff.1 h11
      refine V_y (Y_indexS hx18 Tryz.underlying9 rfl rfl) rfl rfl rfl ?_
      refine V_y (Y_lss rfl rfl) rfl rfl rfl ?_
      refine V_y (Y_move rfl) rfl rfl rfl ?_
      obtain ⟨s20, hs20, h11⟩ := Option.bind_eq_some_iff.1 h11
      refine V_cut 5 (fun _ : Unit => [(0, .string s), (1, .bool feeds), (5, .int .i64 s8), (7, .int .i64 (s.size : Int)), (8, .int .i64 s8), (20, .bool s20)]) (fun _ w' => w = w') ?_ ?_
      · simp only [List.take, List.drop]
        rcases Bool.eq_false_or_eq_true (decide ((x18.toNat : Int) < 32)) with hc19 | hc19
        · rw [if_pos hc19] at hs20
          refine V_gn rfl rfl rfl hc19 rfl rfl rfl ?_
          refine V_gn rfl rfl rfl hc19 rfl rfl rfl ?_
          refine V_gn rfl rfl rfl hc19 rfl rfl rfl ?_
          refine V_gn rfl rfl rfl hc19 rfl rfl rfl ?_
          refine V_y (Y_pick_te rfl hc19 rfl) rfl rfl rfl ?_
          obtain rfl := Option.some.inj hs20
          exact V_end fun a ha => ⟨(), ha.sub ⟨rfl, rfl, rfl, rfl, rfl, rfl, trivial⟩, rfl⟩
        · rw [if_neg (nt hc19)] at hs20
          refine V_ge rfl rfl rfl hc19 ?_
          refine V_y (Y_move rfl) rfl rfl rfl ?_
          refine V_ge rfl rfl rfl hc19 ?_
          refine V_y (Y_move rfl) rfl rfl rfl ?_
          refine V_ge rfl rfl rfl hc19 ?_
          refine V_y (Y_indexS hx18 Tryz.underlying9 rfl rfl) rfl rfl rfl ?_
          refine V_ge rfl rfl rfl hc19 ?_
          refine V_y (Y_eql rfl rfl) rfl rfl rfl ?_
          refine V_y (Y_pick_fe rfl hc19 rfl) rfl rfl rfl ?_
          obtain rfl := Option.some.inj hs20
          exact V_end fun a ha => ⟨(), ha.sub ⟨rfl, rfl, rfl, rfl, rfl, rfl, trivial⟩, rfl⟩
      simp only [List.take, List.drop]
      rintro _ _ rfl
      refine V_y (Y_move rfl) rfl rfl rfl ?_
      obtain ⟨s22, hs22, h11⟩ := Option.bind_eq_some_iff.1 h11
      refine V_cut 9 (fun _ : Unit => [(0, .string s), (1, .bool feeds), (7, .int .i64 (s.size : Int)), (8, .int .i64 s8), (30, .bool s22)]) (fun _ w' => w = w') ?_ ?_
      · simp only [List.take, List.drop]
        rcases Bool.eq_false_or_eq_true (s20) with hc21 | hc21
        · rw [if_pos hc21] at hs22
          refine V_ge rfl rfl rfl hc21 ?_
          refine V_y (Y_move rfl) rfl rfl rfl ?_
          refine V_ge rfl rfl rfl hc21 ?_
          refine V_y (Y_move rfl) rfl rfl rfl ?_
          refine V_ge rfl rfl rfl hc21 ?_
          refine V_y (Y_indexS hx18 Tryz.underlying9 rfl rfl) rfl rfl rfl ?_
          refine V_ge rfl rfl rfl hc21 ?_
          refine V_y (Y_neq rfl rfl) rfl rfl rfl ?_
          refine V_ge rfl rfl rfl hc21 ?_
          refine V_y (Y_move rfl) rfl rfl rfl ?_
          refine V_cut 3 (fun _ : Unit => [(0, .string s), (1, .bool feeds), (7, .int .i64 (s.size : Int)), (8, .int .i64 s8), (21, .bool s20), (29, .bool (((x18.toNat : Int) != 10) || (!feeds)))]) (fun _ w' => w = w') ?_ ?_
          · simp only [List.take, List.drop]
            rcases Bool.eq_false_or_eq_true ((x18.toNat : Int) != 10) with hc23 | hc23
            · refine V_gn rfl rfl rfl hc23 rfl rfl rfl ?_
              refine V_gn rfl rfl rfl hc23 rfl rfl rfl ?_
              refine V_ge rfl rfl rfl hc21 ?_
              refine V_y (Y_pick_te rfl hc23 rfl) rfl rfl rfl ?_
              exact V_end fun a ha => ⟨(), ha.sub ⟨rfl, rfl, rfl, rfl, rfl, (by rw [hc23]; rfl), trivial⟩, rfl⟩
            · refine V_ge rfl rfl rfl hc23 ?_
              refine V_y (Y_move rfl) rfl rfl rfl ?_
              refine V_ge rfl rfl rfl hc23 ?_
              refine V_y (Y_not rfl) rfl rfl rfl ?_
              refine V_ge rfl rfl rfl hc21 ?_
              refine V_y (Y_pick_fe rfl hc23 rfl) rfl rfl rfl ?_
              exact V_end fun a ha => ⟨(), ha.sub ⟨rfl, rfl, rfl, rfl, rfl, (by rw [hc23]; rfl), trivial⟩, rfl⟩
          simp only [List.take, List.drop]
          rintro _ _ rfl
          refine V_y (Y_pick_te rfl hc21 rfl) rfl rfl rfl ?_
          obtain rfl := Option.some.inj hs22
          exact V_end fun a ha => ⟨(), ha.sub ⟨rfl, rfl, rfl, rfl, rfl, trivial⟩, rfl⟩
        · rw [if_neg (nt hc21)] at hs22
          refine V_gn rfl rfl rfl hc21 rfl rfl rfl ?_
          refine V_gn rfl rfl rfl hc21 rfl rfl rfl ?_
          refine V_gn rfl rfl rfl hc21 rfl rfl rfl ?_
          refine V_gn rfl rfl rfl hc21 rfl rfl rfl ?_
          refine V_gn rfl rfl rfl hc21 rfl rfl rfl ?_
          refine V_gu rfl rfl rfl rfl rfl ?_
          refine V_gu rfl rfl rfl rfl rfl ?_
          refine V_gn rfl rfl rfl hc21 rfl rfl rfl ?_
          refine V_y (Y_pick_fe rfl hc21 rfl) rfl rfl rfl ?_
          obtain rfl := Option.some.inj hs22
          exact V_end fun a ha => ⟨(), ha.sub ⟨rfl, rfl, rfl, rfl, rfl, trivial⟩, rfl⟩
      simp only [List.take, List.drop]
      rintro _ _ rfl
      refine V_to (fun _ _ => rfl) ?_
      refine C_cond rfl (fun hc25 => ?_) (fun hc25 => ?_)
      · rw [if_pos hc25] at h11
        refine C_seq ?_
        refine C_region ?_
        refine V_y (Y_assign rfl) rfl rfl rfl ?_
        refine V_to (fun _ _ => rfl) ?_
        obtain rfl := Option.some.inj h11
        obtain rfl := (h12 : Lp.rt _ = _)
        rw [Lp.andThen_rt] at hm
        obtain rfl := Option.some.inj hm
        refine C_ret ?_
        try simp only [↓inBlock_ret, ↓then_ret]
        exact retQ rfl (Res.one Tryz.results102 rfl) ⟨rfl, rfl⟩
      · rw [if_neg (nt hc25)] at h11
        refine C_skip_to (fun _ _ => rfl) ?_
        refine C_region ?_
        refine V_y (Y_addI rfl rfl) rfl rfl rfl ?_
        refine V_y (Y_move rfl) rfl rfl rfl ?_
        obtain rfl := Option.some.inj h11
        refine V_end (fun a ha26 => ?_)
        exact ⟨w64 (s8 + 1), h12, ⟨(), ha26.sub ⟨rfl, rfl, rfl, rfl, trivial⟩, rfl⟩⟩
    · rw [if_neg (nt hc17)] at h11
      obtain rfl := Option.some.inj h11
      refine C_exit (fun a ha27 => ?_)
      exact ⟨s8, ha27.sub trivial, ⟨h12.symm, rfl⟩⟩
  rintro s2 _ ⟨rfl, rfl⟩ a ha7
  rw [Lp.andThen_fin] at hm
  refine C_at (n := ⟨32, [], none⟩) (fun _ _ => rfl) ?_ ha7
  refine C_seq ?_
  refine C_region ?_
  refine V_y (Y_assign rfl) rfl rfl rfl ?_
  refine V_to (fun _ _ => rfl) ?_
  obtain rfl := Option.some.inj hm
  refine C_ret ?_
  try simp only [↓inBlock_ret, ↓then_ret]
  exact retQ rfl (Res.one Tryz.results102 rfl) ⟨rfl, rfl⟩

set_option maxRecDepth 4000 in
set_option maxHeartbeats 4000000 in
theorem know_checkText_c (w : World) (title : ByteArray) (body : ByteArray) {r : Int} (hm : know_checkText title body = some r) : Ret Tryz.prog 70 #[.string title, .string body] w fun v w' => v = .int .i64 r ∧ w = w' := by
  unfold know_checkText at hm
  refine enter Tryz.func70 rfl Tryz.ntmps70 rfl ?_
  refine C_seq ?_
  refine C_region ?_
  refine V_y (Y_assign rfl) rfl rfl rfl ?_
  refine V_to (fun _ _ => rfl) ?_
  refine C_seq ?_
  refine C_seq ?_
  refine C_region ?_
  refine V_y (Y_move rfl) rfl rfl rfl ?_
  refine V_y (Y_lenStr rfl Tryz.underlying9 rfl) rfl rfl rfl ?_
  refine V_y (Y_gtr rfl rfl) rfl rfl rfl ?_
  refine V_y (Y_move rfl) rfl rfl rfl ?_
  refine V_cut 4 (fun _ : Unit => [(0, .string title), (1, .string body), (12, .bool ((decide ((200 : Int) < (title.size : Int))) || (decide ((20000 : Int) < (body.size : Int)))))]) (fun _ w' => w = w') ?_ ?_
  · simp only [List.take, List.drop]
    rcases Bool.eq_false_or_eq_true (decide ((200 : Int) < (title.size : Int))) with hc1 | hc1
    · refine V_gn rfl rfl rfl hc1 rfl rfl rfl ?_
      refine V_gn rfl rfl rfl hc1 rfl rfl rfl ?_
      refine V_gn rfl rfl rfl hc1 rfl rfl rfl ?_
      refine V_y (Y_pick_te rfl hc1 rfl) rfl rfl rfl ?_
      exact V_end fun a ha => ⟨(), ha.sub ⟨rfl, rfl, (by rw [hc1]; rfl), trivial⟩, rfl⟩
    · refine V_ge rfl rfl rfl hc1 ?_
      refine V_y (Y_move rfl) rfl rfl rfl ?_
      refine V_ge rfl rfl rfl hc1 ?_
      refine V_y (Y_lenStr rfl Tryz.underlying9 rfl) rfl rfl rfl ?_
      refine V_ge rfl rfl rfl hc1 ?_
      refine V_y (Y_gtr rfl rfl) rfl rfl rfl ?_
      refine V_y (Y_pick_fe rfl hc1 rfl) rfl rfl rfl ?_
      exact V_end fun a ha => ⟨(), ha.sub ⟨rfl, rfl, (by rw [hc1]; rfl), trivial⟩, rfl⟩
  simp only [List.take, List.drop]
  rintro _ _ rfl
  refine V_to (fun _ _ => rfl) ?_
  refine C_cond rfl (fun hc3 => ?_) (fun hc3 => ?_)
  · rw [if_pos hc3] at hm
    refine C_seq ?_
    refine C_region ?_
    refine V_y (Y_assign rfl) rfl rfl rfl ?_
    refine V_to (fun _ _ => rfl) ?_
    obtain rfl := Option.some.inj hm
    refine C_ret ?_
    try simp only [↓inBlock_ret, ↓then_ret]
    exact retQ rfl (Res.one Tryz.results70 rfl) ⟨rfl, rfl⟩
  · rw [if_neg (nt hc3)] at hm
    refine C_skip_to (fun _ _ => rfl) ?_
    refine C_seq ?_
    refine C_seq ?_
    refine C_region ?_
    refine V_y (Y_move rfl) rfl rfl rfl ?_
    obtain ⟨x4, hx4, hm⟩ := Option.bind_eq_some_iff.1 hm
    refine V_call Tryz.call102 rfl rfl rfl rfl (know_plain_c w title false hx4) ?_
    rintro _ _ ⟨rfl, rfl⟩
    refine V_y (Y_not rfl) rfl rfl rfl ?_
    refine V_y (Y_move rfl) rfl rfl rfl ?_
    obtain ⟨s6, hs6, hm⟩ := Option.bind_eq_some_iff.1 hm
    refine V_cut 4 (fun _ : Unit => [(20, .bool s6)]) (fun _ w' => w = w') ?_ ?_
    · simp only [List.take, List.drop]
      rcases Bool.eq_false_or_eq_true (!x4) with hc5 | hc5
      · rw [if_pos hc5] at hs6
        refine V_gn rfl rfl rfl hc5 rfl rfl rfl ?_
        refine V_gn rfl rfl rfl hc5 rfl rfl rfl ?_
        refine V_gn rfl rfl rfl hc5 rfl rfl rfl ?_
        refine V_y (Y_pick_te rfl hc5 rfl) rfl rfl rfl ?_
        obtain rfl := Option.some.inj hs6
        exact V_end fun a ha => ⟨(), ha.sub ⟨rfl, trivial⟩, rfl⟩
      · rw [if_neg (nt hc5)] at hs6
        refine V_ge rfl rfl rfl hc5 ?_
        refine V_y (Y_move rfl) rfl rfl rfl ?_
        refine V_ge rfl rfl rfl hc5 ?_
        obtain ⟨x7, hx7, hs6⟩ := Option.bind_eq_some_iff.1 hs6
        refine V_call Tryz.call102 rfl rfl rfl rfl (know_plain_c w body true hx7) ?_
        rintro _ _ ⟨rfl, rfl⟩
        refine V_ge rfl rfl rfl hc5 ?_
        refine V_y (Y_not rfl) rfl rfl rfl ?_
        refine V_y (Y_pick_fe rfl hc5 rfl) rfl rfl rfl ?_
        obtain rfl := Option.some.inj hs6
        exact V_end fun a ha => ⟨(), ha.sub ⟨rfl, trivial⟩, rfl⟩
    simp only [List.take, List.drop]
    rintro _ _ rfl
    refine V_to (fun _ _ => rfl) ?_
    refine C_cond rfl (fun hc8 => ?_) (fun hc8 => ?_)
    · rw [if_pos hc8] at hm
      refine C_seq ?_
      refine C_region ?_
      refine V_y (Y_assign rfl) rfl rfl rfl ?_
      refine V_to (fun _ _ => rfl) ?_
      obtain rfl := Option.some.inj hm
      refine C_ret ?_
      try simp only [↓inBlock_ret, ↓then_ret]
      exact retQ rfl (Res.one Tryz.results70 rfl) ⟨rfl, rfl⟩
    · rw [if_neg (nt hc8)] at hm
      refine C_skip_to (fun _ _ => rfl) ?_
      refine C_seq ?_
      refine C_region ?_
      refine V_y (Y_assign rfl) rfl rfl rfl ?_
      refine V_to (fun _ _ => rfl) ?_
      obtain rfl := Option.some.inj hm
      refine C_ret ?_
      try simp only [↓inBlock_ret, ↓then_ret]
      exact retQ rfl (Res.one Tryz.results70 rfl) ⟨rfl, rfl⟩

set_option maxRecDepth 4000 in
set_option maxHeartbeats 4000000 in
theorem know_checkEntry_c (w : World) {A : Nat → Prop} (hA : ∀ b, w.heap.size ≤ b → A b) (v : know_Entry) (before : Int) {r : Int} (hm : know_checkEntry v before = some r) : Ret Tryz.prog 14 #[.agg #[.int .i64 v.id_, .string v.title, .string v.body], .int .i64 before] w fun v w' => v = .int .i64 r ∧ Kp Dw w w' := by
  unfold know_checkEntry at hm
  refine enter Tryz.func14 rfl Tryz.ntmps14 rfl ?_
  have hA0 := hA
  have hB := Nat.le_refl w.heap.size
  have hK : Tr Dw w.heap.size A w A w := Tr.refl (Dw := Dw) hA
  have hH : Hp w.heap.size A w [] := Hp.nil
  refine C_seq ?_
  refine C_region ?_
  refine V_box rfl rfl ?_
  intro b1 w2 h3
  have hk5 := h3.kp (Dw := Dw)
  have h4 : El (α := know_Entry) A w2 b1 0 v := h3.el hA ⟨[.int .i64 v.id_], _, rfl, rfl, ⟨[.string v.title], _, rfl, rfl, rfl⟩⟩
  have ht6 := Kp.tr (Dw := Dw) hk5 hA hB
  replace hH := Hp.kp (Dw := Dw) hH hk5
  replace hK := Tr.trans (Dw := Dw) hK ht6
  replace hB := Nat.le_trans hB ht6.ex.size
  replace hA := ht6.new
  refine V_y (Y_assign rfl) rfl rfl rfl ?_
  refine V_to (fun _ _ => rfl) ?_
  refine C_seq ?_
  refine C_block ?_
  refine C_seq ?_
  refine C_region ?_
  have h7 := El_know_Entry_0 h4
  refine V_y (Y_fieldAddr Tryz.underlying33 rfl Tryz.sizeOf3 (by decide) rfl) rfl rfl rfl ?_
  refine V_y (Y_load (El.int h7) Tryz.isAgg3 rfl) rfl rfl rfl ?_
  refine V_call Tryz.call64 rfl rfl rfl rfl (know_within_c w2 v.id_ 1 3000000) ?_
  rintro _ _ ⟨rfl, rfl⟩
  refine V_y (Y_not rfl) rfl rfl rfl ?_
  refine V_y (Y_assign rfl) rfl rfl rfl ?_
  refine V_to (fun _ _ => rfl) ?_
  refine C_cond rfl (fun hc8 => ?_) (fun hc8 => ?_)
  · rw [if_pos hc8] at hm
    refine C_seq ?_
    refine C_region ?_
    refine V_y (Y_assign rfl) rfl rfl rfl ?_
    refine V_to (fun _ _ => rfl) ?_
    obtain rfl := Option.some.inj hm
    refine C_ret ?_
    try simp only [↓inBlock_ret, ↓then_ret]
    exact retQ rfl (Res.one Tryz.results14 rfl) ⟨rfl, hK.kp⟩
  · rw [if_neg (nt hc8)] at hm
    refine C_seq ?_
    refine C_region ?_
    have h9 := El_know_Entry_0 h4
    refine V_y (Y_fieldAddr Tryz.underlying33 rfl Tryz.sizeOf3 (by decide) rfl) rfl rfl rfl ?_
    refine V_y (Y_load (El.int h9) Tryz.isAgg3 rfl) rfl rfl rfl ?_
    refine V_y (Y_move rfl) rfl rfl rfl ?_
    refine V_y (Y_leq rfl rfl) rfl rfl rfl ?_
    refine V_y (Y_assign rfl) rfl rfl rfl ?_
    refine V_to (fun _ _ => rfl) ?_
    refine C_cond rfl (fun hc10 => ?_) (fun hc10 => ?_)
    · rw [if_pos hc10] at hm
      refine C_seq ?_
      refine C_region ?_
      refine V_y (Y_assign rfl) rfl rfl rfl ?_
      refine V_to (fun _ _ => rfl) ?_
      obtain rfl := Option.some.inj hm
      refine C_ret ?_
      try simp only [↓inBlock_ret, ↓then_ret]
      exact retQ rfl (Res.one Tryz.results14 rfl) ⟨rfl, hK.kp⟩
    · rw [if_neg (nt hc10)] at hm
      refine C_skip_to (fun _ _ => rfl) ?_
      refine C_seq ?_
      refine C_region ?_
      have h11 := El_know_Entry_1 h4
      refine V_y (Y_fieldAddr Tryz.underlying33 rfl Tryz.sizeOf9 (by decide) rfl) rfl rfl rfl ?_
      refine V_y (Y_load (El.str h11) Tryz.isAgg9 rfl) rfl rfl rfl ?_
      have h12 := El_know_Entry_2 h4
      refine V_y (Y_fieldAddr Tryz.underlying33 rfl Tryz.sizeOf9 (by decide) rfl) rfl rfl rfl ?_
      refine V_y (Y_load (El.str h12) Tryz.isAgg9 rfl) rfl rfl rfl ?_
      obtain ⟨x13, hx13, hm⟩ := Option.bind_eq_some_iff.1 hm
      refine V_call Tryz.call70 rfl rfl rfl rfl (know_checkText_c w2 v.title v.body hx13) ?_
      rintro _ _ ⟨rfl, rfl⟩
      refine V_y (Y_assign rfl) rfl rfl rfl ?_
      refine V_to (fun _ _ => rfl) ?_
      obtain rfl := Option.some.inj hm
      refine C_ret ?_
      try simp only [↓inBlock_ret, ↓then_ret]
      exact retQ rfl (Res.one Tryz.results14 rfl) ⟨rfl, hK.kp⟩

set_option maxRecDepth 4000 in
set_option maxHeartbeats 4000000 in
theorem know_digit_c (w : World) (c : Int) : Ret Tryz.prog 136 #[.int .u8 c] w fun v w' => v = .bool (know_digit c) ∧ w = w' := by
  generalize hm : know_digit c = r
  unfold know_digit at hm
  refine enter Tryz.func136 rfl Tryz.ntmps136 rfl ?_
  refine C_seq ?_
  refine C_region ?_
  refine V_y (Y_assign rfl) rfl rfl rfl ?_
  refine V_to (fun _ _ => rfl) ?_
  refine C_seq ?_
  refine C_region ?_
  refine V_y (Y_move rfl) rfl rfl rfl ?_
  refine V_y (Y_geq rfl rfl) rfl rfl rfl ?_
  refine V_y (Y_move rfl) rfl rfl rfl ?_
  refine V_cut 3 (fun _ : Unit => [(8, .bool ((decide ((48 : Int) ≤ c)) && (decide (c ≤ 57))))]) (fun _ w' => w = w') ?_ ?_
  · simp only [List.take, List.drop]
    rcases Bool.eq_false_or_eq_true (decide ((48 : Int) ≤ c)) with hc1 | hc1
    · refine V_ge rfl rfl rfl hc1 ?_
      refine V_y (Y_move rfl) rfl rfl rfl ?_
      refine V_ge rfl rfl rfl hc1 ?_
      refine V_y (Y_leq rfl rfl) rfl rfl rfl ?_
      refine V_y (Y_pick_te rfl hc1 rfl) rfl rfl rfl ?_
      exact V_end fun a ha => ⟨(), ha.sub ⟨(by rw [hc1]; rfl), trivial⟩, rfl⟩
    · refine V_gn rfl rfl rfl hc1 rfl rfl rfl ?_
      refine V_gn rfl rfl rfl hc1 rfl rfl rfl ?_
      refine V_y (Y_pick_fe rfl hc1 rfl) rfl rfl rfl ?_
      exact V_end fun a ha => ⟨(), ha.sub ⟨(by rw [hc1]; rfl), trivial⟩, rfl⟩
  simp only [List.take, List.drop]
  rintro _ _ rfl
  refine V_y (Y_assign rfl) rfl rfl rfl ?_
  refine V_to (fun _ _ => rfl) ?_
  obtain rfl := hm
  refine C_ret ?_
  try simp only [↓inBlock_ret, ↓then_ret]
  exact retQ rfl (Res.one Tryz.results136 rfl) ⟨rfl, rfl⟩

set_option maxRecDepth 4000 in
set_option maxHeartbeats 4000000 in
theorem know_letter_c (w : World) (c : Int) : Ret Tryz.prog 135 #[.int .u8 c] w fun v w' => v = .bool (know_letter c) ∧ w = w' := by
  generalize hm : know_letter c = r
  unfold know_letter at hm
  refine enter Tryz.func135 rfl Tryz.ntmps135 rfl ?_
  refine C_seq ?_
  refine C_region ?_
  refine V_y (Y_assign rfl) rfl rfl rfl ?_
  refine V_to (fun _ _ => rfl) ?_
  refine C_seq ?_
  refine C_region ?_
  refine V_y (Y_move rfl) rfl rfl rfl ?_
  refine V_y (Y_geq rfl rfl) rfl rfl rfl ?_
  refine V_y (Y_move rfl) rfl rfl rfl ?_
  refine V_cut 3 (fun _ : Unit => [(0, .int .u8 c), (8, .bool ((decide ((97 : Int) ≤ c)) && (decide (c ≤ 122))))]) (fun _ w' => w = w') ?_ ?_
  · simp only [List.take, List.drop]
    rcases Bool.eq_false_or_eq_true (decide ((97 : Int) ≤ c)) with hc1 | hc1
    · refine V_ge rfl rfl rfl hc1 ?_
      refine V_y (Y_move rfl) rfl rfl rfl ?_
      refine V_ge rfl rfl rfl hc1 ?_
      refine V_y (Y_leq rfl rfl) rfl rfl rfl ?_
      refine V_y (Y_pick_te rfl hc1 rfl) rfl rfl rfl ?_
      exact V_end fun a ha => ⟨(), ha.sub ⟨rfl, (by rw [hc1]; rfl), trivial⟩, rfl⟩
    · refine V_gn rfl rfl rfl hc1 rfl rfl rfl ?_
      refine V_gn rfl rfl rfl hc1 rfl rfl rfl ?_
      refine V_y (Y_pick_fe rfl hc1 rfl) rfl rfl rfl ?_
      exact V_end fun a ha => ⟨(), ha.sub ⟨rfl, (by rw [hc1]; rfl), trivial⟩, rfl⟩
  simp only [List.take, List.drop]
  rintro _ _ rfl
  refine V_y (Y_move rfl) rfl rfl rfl ?_
  refine V_cut 7 (fun _ : Unit => [(16, .bool (((decide ((97 : Int) ≤ c)) && (decide (c ≤ 122))) || ((decide ((65 : Int) ≤ c)) && (decide (c ≤ 90)))))]) (fun _ w' => w = w') ?_ ?_
  · simp only [List.take, List.drop]
    rcases Bool.eq_false_or_eq_true (((decide ((97 : Int) ≤ c)) && (decide (c ≤ 122)))) with hc3 | hc3
    · refine V_gn rfl rfl rfl hc3 rfl rfl rfl ?_
      refine V_gn rfl rfl rfl hc3 rfl rfl rfl ?_
      refine V_gn rfl rfl rfl hc3 rfl rfl rfl ?_
      refine V_gu rfl rfl rfl rfl rfl ?_
      refine V_gu rfl rfl rfl rfl rfl ?_
      refine V_gn rfl rfl rfl hc3 rfl rfl rfl ?_
      refine V_y (Y_pick_te rfl hc3 rfl) rfl rfl rfl ?_
      exact V_end fun a ha => ⟨(), ha.sub ⟨(by rw [hc3]; rfl), trivial⟩, rfl⟩
    · refine V_ge rfl rfl rfl hc3 ?_
      refine V_y (Y_move rfl) rfl rfl rfl ?_
      refine V_ge rfl rfl rfl hc3 ?_
      refine V_y (Y_geq rfl rfl) rfl rfl rfl ?_
      refine V_ge rfl rfl rfl hc3 ?_
      refine V_y (Y_move rfl) rfl rfl rfl ?_
      refine V_cut 3 (fun _ : Unit => [(9, .bool ((decide ((97 : Int) ≤ c)) && (decide (c ≤ 122)))), (15, .bool ((decide ((65 : Int) ≤ c)) && (decide (c ≤ 90))))]) (fun _ w' => w = w') ?_ ?_
      · simp only [List.take, List.drop]
        rcases Bool.eq_false_or_eq_true (decide ((65 : Int) ≤ c)) with hc5 | hc5
        · refine V_ge rfl rfl rfl hc5 ?_
          refine V_y (Y_move rfl) rfl rfl rfl ?_
          refine V_ge rfl rfl rfl hc5 ?_
          refine V_y (Y_leq rfl rfl) rfl rfl rfl ?_
          refine V_ge rfl rfl rfl hc3 ?_
          refine V_y (Y_pick_te rfl hc5 rfl) rfl rfl rfl ?_
          exact V_end fun a ha => ⟨(), ha.sub ⟨rfl, (by rw [hc5]; rfl), trivial⟩, rfl⟩
        · refine V_gn rfl rfl rfl hc5 rfl rfl rfl ?_
          refine V_gn rfl rfl rfl hc5 rfl rfl rfl ?_
          refine V_ge rfl rfl rfl hc3 ?_
          refine V_y (Y_pick_fe rfl hc5 rfl) rfl rfl rfl ?_
          exact V_end fun a ha => ⟨(), ha.sub ⟨rfl, (by rw [hc5]; rfl), trivial⟩, rfl⟩
      simp only [List.take, List.drop]
      rintro _ _ rfl
      refine V_y (Y_pick_fe rfl hc3 rfl) rfl rfl rfl ?_
      exact V_end fun a ha => ⟨(), ha.sub ⟨(by rw [hc3]; rfl), trivial⟩, rfl⟩
  simp only [List.take, List.drop]
  rintro _ _ rfl
  refine V_y (Y_assign rfl) rfl rfl rfl ?_
  refine V_to (fun _ _ => rfl) ?_
  obtain rfl := hm
  refine C_ret ?_
  try simp only [↓inBlock_ret, ↓then_ret]
  exact retQ rfl (Res.one Tryz.results135 rfl) ⟨rfl, rfl⟩

set_option maxRecDepth 4000 in
set_option maxHeartbeats 4000000 in
theorem know_inWord_c (w : World) (c : Int) : Ret Tryz.prog 97 #[.int .u8 c] w fun v w' => v = .bool (know_inWord c) ∧ w = w' := by
  generalize hm : know_inWord c = r
  unfold know_inWord at hm
  refine enter Tryz.func97 rfl Tryz.ntmps97 rfl ?_
  refine C_seq ?_
  refine C_region ?_
  refine V_y (Y_assign rfl) rfl rfl rfl ?_
  refine V_to (fun _ _ => rfl) ?_
  refine C_seq ?_
  refine C_region ?_
  refine V_y (Y_move rfl) rfl rfl rfl ?_
  refine V_call Tryz.call135 rfl rfl rfl rfl (know_letter_c w c) ?_
  rintro _ _ ⟨rfl, rfl⟩
  refine V_y (Y_move rfl) rfl rfl rfl ?_
  refine V_cut 3 (fun _ : Unit => [(0, .int .u8 c), (8, .bool ((know_letter c) || (know_digit c)))]) (fun _ w' => w = w') ?_ ?_
  · simp only [List.take, List.drop]
    rcases Bool.eq_false_or_eq_true ((know_letter c)) with hc1 | hc1
    · refine V_gn rfl rfl rfl hc1 rfl rfl rfl ?_
      refine V_gn rfl rfl rfl hc1 rfl rfl rfl ?_
      refine V_y (Y_pick_te rfl hc1 rfl) rfl rfl rfl ?_
      exact V_end fun a ha => ⟨(), ha.sub ⟨rfl, (by rw [hc1]; rfl), trivial⟩, rfl⟩
    · refine V_ge rfl rfl rfl hc1 ?_
      refine V_y (Y_move rfl) rfl rfl rfl ?_
      refine V_ge rfl rfl rfl hc1 ?_
      refine V_call Tryz.call136 rfl rfl rfl rfl (know_digit_c w c) ?_
      rintro _ _ ⟨rfl, rfl⟩
      refine V_y (Y_pick_fe rfl hc1 rfl) rfl rfl rfl ?_
      exact V_end fun a ha => ⟨(), ha.sub ⟨rfl, (by rw [hc1]; rfl), trivial⟩, rfl⟩
  simp only [List.take, List.drop]
  rintro _ _ rfl
  refine V_y (Y_move rfl) rfl rfl rfl ?_
  refine V_cut 3 (fun _ : Unit => [(12, .bool (((know_letter c) || (know_digit c)) || (decide ((128 : Int) ≤ c))))]) (fun _ w' => w = w') ?_ ?_
  · simp only [List.take, List.drop]
    rcases Bool.eq_false_or_eq_true (((know_letter c) || (know_digit c))) with hc3 | hc3
    · refine V_gn rfl rfl rfl hc3 rfl rfl rfl ?_
      refine V_gn rfl rfl rfl hc3 rfl rfl rfl ?_
      refine V_y (Y_pick_te rfl hc3 rfl) rfl rfl rfl ?_
      exact V_end fun a ha => ⟨(), ha.sub ⟨(by rw [hc3]; rfl), trivial⟩, rfl⟩
    · refine V_ge rfl rfl rfl hc3 ?_
      refine V_y (Y_move rfl) rfl rfl rfl ?_
      refine V_ge rfl rfl rfl hc3 ?_
      refine V_y (Y_geq rfl rfl) rfl rfl rfl ?_
      refine V_y (Y_pick_fe rfl hc3 rfl) rfl rfl rfl ?_
      exact V_end fun a ha => ⟨(), ha.sub ⟨(by rw [hc3]; rfl), trivial⟩, rfl⟩
  simp only [List.take, List.drop]
  rintro _ _ rfl
  refine V_y (Y_assign rfl) rfl rfl rfl ?_
  refine V_to (fun _ _ => rfl) ?_
  obtain rfl := hm
  refine C_ret ?_
  try simp only [↓inBlock_ret, ↓then_ret]
  exact retQ rfl (Res.one Tryz.results97 rfl) ⟨rfl, rfl⟩

set_option maxRecDepth 4000 in
set_option maxHeartbeats 4000000 in
theorem know_lower_c (w : World) {A : Nat → Prop} (hA : ∀ b, w.heap.size ≤ b → A b) (s : ByteArray) {r : ByteArray} (hm : know_lower s = some r) : Ret Tryz.prog 98 #[.string s] w fun v w' => v = .string r ∧ Kp Dw w w' := by
  unfold know_lower at hm
  refine enter Tryz.func98 rfl Tryz.ntmps98 rfl ?_
  have hA0 := hA
  have hB := Nat.le_refl w.heap.size
  have hK : Tr Dw w.heap.size A w A w := Tr.refl (Dw := Dw) hA
  have hH : Hp w.heap.size A w [] := Hp.nil
  refine C_seq ?_
  refine C_region ?_
  refine V_y (Y_assign rfl) rfl rfl rfl ?_
  refine V_to (fun _ _ => rfl) ?_
  refine C_seq ?_
  refine C_region ?_
  refine V_y (Y_move rfl) rfl rfl rfl ?_
  obtain ⟨x1, hx1, hm⟩ := Option.bind_eq_some_iff.1 hm
  refine V_convU (Dw := Dw) (e := 5) hH hx1 Tryz.underlying9 Tryz.underlying227 Tryz.underlying5 hB hA rfl rfl ?_
  intro v2 w3 A4 hH5 ht6
  replace hK := Tr.trans (Dw := Dw) hK ht6
  replace hB := Nat.le_trans hB ht6.ex.size
  replace hA := ht6.new
  replace hH : Hp w.heap.size A4 w3 (obU 5 v2 x1 :: []) := hH5
  refine V_y (Y_assign rfl) rfl rfl rfl ?_
  refine V_to (fun _ _ => rfl) ?_
  refine C_seq ?_
  refine C_seq ?_
  refine C_region ?_
  refine V_y (Y_move rfl) rfl rfl rfl ?_
  refine V_y (Y_lenSl (Hp.anyU (e := 5) (v := v2) (l := x1) hH (i := 0) rfl) rfl Tryz.underlying227 rfl) rfl rfl rfl ?_
  refine V_y (Y_move rfl) rfl rfl rfl ?_
  refine V_to (fun _ _ => rfl) ?_
  have hn31 := Hp.leU (e := 5) (v := v2) (l := x1) hH (i := 0) rfl
  obtain ⟨o7, ho7, hm⟩ := Option.bind_eq_some_iff.1 hm
  refine C_cutG (ι := ((List UInt8) × Value × (Nat → Prop))) (fun ⟨s8, v14, A16⟩ => [(3, v14)]) (fun ⟨s8, v14, A16⟩ => fun w' => o7 = .fin s8 ∧ Hp w.heap.size A16 w' (obU 5 v14 s8 :: []) ∧ Tr Dw w.heap.size A4 w3 A16 w') ?_ ?_
  · refine C_block ?_
    refine C_range ho7 (fun k10 s18 a w' => ∃ i : (Value × (Nat → Prop)), Has ⟨30, [], none⟩ a ([(3, i.1), (8, i.1), (9, .int .i64 (x1.length : Int)), (10, .int .i64 (k10 : Int))]) ∧ Hp w.heap.size i.2 w' (obU 5 i.1 s18 :: []) ∧ Tr Dw w.heap.size A4 w3 i.2 w') (fun a ha => ⟨(v2, A4), ha.sub ⟨rfl, rfl, rfl, rfl, trivial⟩, ⟨hH, Tr.refl (Dw := Dw) hA⟩⟩) ?_
    rintro K k10 s18 a w19 ⟨⟨v20, A22⟩, ha74, hH23, hr9⟩ hle27 K30 h29
    refine C_of ?_ ha74
    replace hK := Tr.trans (Dw := Dw) hK hr9
    replace hB := Nat.le_trans hB hr9.ex.size
    replace hA := hr9.new
    replace hH : Hp w.heap.size A22 w19 (obU 5 v20 s18 :: []) := hH23
    refine C_seq (C_region (V_y (Y_lss rfl rfl) rfl rfl rfl (V_to (fun _ _ => rfl) ?_)))
    refine C_seq ?_
    refine C_cond rfl (fun hc32 => ?_) (fun hc32 => ?_)
    · have hlt28 := lt_of_dec hc32
      obtain ⟨x24, h25, h26⟩ := K30 hlt28
      refine C_skip_to (fun _ _ => rfl) ?_
      refine C_seq ?_
      obtain ⟨s34, ho33, h25⟩ := Option.bind_eq_some_iff.1 h25
      refine C_cutG (ι := (Value × (Nat → Prop))) (fun ⟨v36, A41⟩ => [(3, v36), (8, v36), (9, .int .i64 (x1.length : Int)), (10, .int .i64 (k10 : Int))]) (fun ⟨v36, A41⟩ => fun w' => Hp w.heap.size A41 w' (obU 5 v36 s34 :: []) ∧ Tr Dw w.heap.size A22 w19 A41 w') ?_ ?_
      · have hr35 : Tr Dw w.heap.size A22 w19 A22 w19 := Tr.refl (Dw := Dw) hA
        refine C_block ?_
        refine C_seq ?_
        refine C_region ?_
        refine V_y (Y_move rfl) rfl rfl rfl ?_
        obtain ⟨x43, hx43, ho33⟩ := Option.bind_eq_some_iff.1 ho33
        refine V_indexAddrU (e := 5) (v := v20) (l := s18) hH (i := 0) rfl hx43 Tryz.underlying227 Tryz.sizeOf5 rfl rfl rfl ?_
        intro b44 o45 h46 hl47
        refine V_y (Y_load (El.u8 h46) Tryz.isAgg5 rfl) rfl rfl rfl ?_
        refine V_y (Y_assign rfl) rfl rfl rfl ?_
        refine V_y (Y_assign rfl) rfl rfl rfl ?_
        refine V_to (fun _ _ => rfl) ?_
        refine C_seq ?_
        refine C_region ?_
        refine V_y (Y_move rfl) rfl rfl rfl ?_
        refine V_y (Y_geq rfl rfl) rfl rfl rfl ?_
        refine V_y (Y_move rfl) rfl rfl rfl ?_
        refine V_cut 3 (fun _ : Unit => [(3, v20), (4, .int .i64 (k10 : Int)), (5, .int .u8 (x43.toNat : Int)), (8, v20), (9, .int .i64 (x1.length : Int)), (10, .int .i64 (k10 : Int)), (20, .bool ((decide ((65 : Int) ≤ (x43.toNat : Int))) && (decide ((x43.toNat : Int) ≤ 90))))]) (fun _ w' => w19 = w') ?_ ?_
        · simp only [List.take, List.drop]
          rcases Bool.eq_false_or_eq_true (decide ((65 : Int) ≤ (x43.toNat : Int))) with hc48 | hc48
          · refine V_ge rfl rfl rfl hc48 ?_
            refine V_y (Y_move rfl) rfl rfl rfl ?_
            refine V_ge rfl rfl rfl hc48 ?_
            refine V_y (Y_leq rfl rfl) rfl rfl rfl ?_
            refine V_y (Y_pick_te rfl hc48 rfl) rfl rfl rfl ?_
            exact V_end fun a ha => ⟨(), ha.sub ⟨rfl, rfl, rfl, rfl, rfl, rfl, (by rw [hc48]; rfl), trivial⟩, rfl⟩
          · refine V_gn rfl rfl rfl hc48 rfl rfl rfl ?_
            refine V_gn rfl rfl rfl hc48 rfl rfl rfl ?_
            refine V_y (Y_pick_fe rfl hc48 rfl) rfl rfl rfl ?_
            exact V_end fun a ha => ⟨(), ha.sub ⟨rfl, rfl, rfl, rfl, rfl, rfl, (by rw [hc48]; rfl), trivial⟩, rfl⟩
        simp only [List.take, List.drop]
        rintro _ _ rfl
        refine V_to (fun _ _ => rfl) ?_
        obtain ⟨s51, ho50, ho33⟩ := Option.bind_eq_some_iff.1 ho33
        refine C_cutG (ι := (Value × (Nat → Prop))) (fun ⟨v53, A58⟩ => [(3, v53), (8, v53), (9, .int .i64 (x1.length : Int)), (10, .int .i64 (k10 : Int))]) (fun ⟨v53, A58⟩ => fun w' => Hp w.heap.size A58 w' (obU 5 v53 s51 :: []) ∧ Tr Dw w.heap.size A22 w19 A58 w') ?_ ?_
        · have hr52 : Tr Dw w.heap.size A22 w19 A22 w19 := Tr.refl (Dw := Dw) hA
          refine C_cond rfl (fun hc60 => ?_) (fun hc60 => ?_)
          · rw [if_pos hc60] at ho50
            refine C_region ?_
            refine V_y (Y_move rfl) rfl rfl rfl ?_
            refine V_y (Y_move rfl) rfl rfl rfl ?_
            refine V_y (Y_move rfl) rfl rfl rfl ?_
            refine V_y (Y_addB rfl rfl) rfl rfl rfl ?_
            refine V_y (Y_subB rfl rfl) rfl rfl rfl ?_
            refine V_indexAddrU (e := 5) (v := v20) (l := s18) hH (i := 0) rfl hx43 Tryz.underlying227 Tryz.sizeOf5 rfl rfl rfl ?_
            intro b61 o62 h63 hl64
            obtain ⟨x65, hx65, ho50⟩ := Option.bind_eq_some_iff.1 ho50
            refine V_storeU (Dw := Dw) (e := 5) (v := v20) (l := s18) hH (i := 0) rfl hl64 hx65 rfl Tryz.sizeOf5 rfl hB hA rfl rfl ?_
            intro w66 hH67 ht68
            replace hK := Tr.trans (Dw := Dw) hK ht68
            replace hr9 := Tr.trans (Dw := Dw) hr9 ht68
            replace hr35 := Tr.trans (Dw := Dw) hr35 ht68
            replace hr52 := Tr.trans (Dw := Dw) hr52 ht68
            replace hB := Nat.le_trans hB ht68.ex.size
            replace hA := ht68.new
            replace hH : Hp w.heap.size A22 w66 (obU 5 v20 x65 :: []) := hH67
            obtain rfl := Option.some.inj ho50
            refine V_end (fun a ha69 => ?_)
            exact ⟨(v20, A22), ha69.sub ⟨rfl, rfl, rfl, rfl, trivial⟩, ⟨hH, hr52⟩⟩
          · rw [if_neg (nt hc60)] at ho50
            obtain rfl := Option.some.inj ho50
            refine C_skip (fun a ha70 => ?_)
            exact ⟨(v20, A22), ha70.sub ⟨rfl, rfl, rfl, rfl, trivial⟩, ⟨hH, hr52⟩⟩
        rintro ⟨v53, A58⟩ w55 ⟨hH59, hk56⟩ a ha57
        replace hK := Tr.trans (Dw := Dw) hK hk56
        replace hr9 := Tr.trans (Dw := Dw) hr9 hk56
        replace hr35 := Tr.trans (Dw := Dw) hr35 hk56
        replace hB := Nat.le_trans hB hk56.ex.size
        replace hA := hk56.new
        replace hH : Hp w.heap.size A58 w55 (obU 5 v53 s51 :: []) := hH59
        obtain rfl := Option.some.inj ho33
        exact ⟨(v53, A58), ha57.sub ⟨rfl, rfl, rfl, rfl, trivial⟩, ⟨hH, hr35⟩⟩
      rintro ⟨v36, A41⟩ w38 ⟨hH42, hk39⟩ a ha40
      replace hK := Tr.trans (Dw := Dw) hK hk39
      replace hr9 := Tr.trans (Dw := Dw) hr9 hk39
      replace hB := Nat.le_trans hB hk39.ex.size
      replace hA := hk39.new
      replace hH : Hp w.heap.size A41 w38 (obU 5 v36 s34 :: []) := hH42
      refine C_at (n := ⟨30, [], none⟩) (fun _ _ => rfl) ?_ ha40
      refine C_region ?_
      refine V_y (Y_addI rfl rfl) rfl rfl rfl ?_
      refine V_y (Y_move rfl) rfl rfl rfl ?_
      obtain rfl := Option.some.inj h25
      refine V_end (fun a ha72 => ?_)
      exact ⟨s34, hlt28, h26, ⟨(v36, A41), ha72.sub ⟨rfl, rfl, rfl, (congrArg (fun z => some (Value.int .i64 z)) (w64_succ hlt28 hn31)), trivial⟩, ⟨hH, hr9⟩⟩⟩
    · refine C_exit (fun a ha73 => ?_)
      exact ⟨(s18, v20, A22), ha73.sub ⟨rfl, trivial⟩, ⟨(h29 (eq_of_dec hle27 hc32)).symm, hH, hr9⟩⟩
  rintro ⟨s8, v14, A16⟩ w11 ⟨rfl, hH17, hk12⟩ a ha13
  rw [Lp.andThen_fin] at hm
  replace hK := Tr.trans (Dw := Dw) hK hk12
  replace hB := Nat.le_trans hB hk12.ex.size
  replace hA := hk12.new
  replace hH : Hp w.heap.size A16 w11 (obU 5 v14 s8 :: []) := hH17
  refine C_at (n := ⟨30, [], none⟩) (fun _ _ => rfl) ?_ ha13
  refine C_seq ?_
  refine C_region ?_
  refine V_y (Y_move rfl) rfl rfl rfl ?_
  obtain ⟨A75, ht76, h77, hH78⟩ := Hp.freezeU (Dw := Dw) (v := v14) (l := s8) hH (i := 0) rfl hA
  replace hK := Tr.trans (Dw := Dw) hK ht76
  replace hB := Nat.le_trans hB ht76.ex.size
  replace hA := ht76.new
  replace hH : Hp w.heap.size A75 w11 ([]) := hH78
  refine V_y (Y_convBS (l := s8) h77 Tryz.underlying227 Tryz.underlying5 Tryz.underlying9 rfl) rfl rfl rfl ?_
  refine V_y (Y_assign rfl) rfl rfl rfl ?_
  refine V_to (fun _ _ => rfl) ?_
  obtain rfl := Option.some.inj hm
  refine C_ret ?_
  try simp only [↓inBlock_ret, ↓then_ret]
  exact retQ rfl (Res.one Tryz.results98 rfl) ⟨rfl, hK.kp⟩

set_option maxRecDepth 4000 in
set_option maxHeartbeats 4000000 in
theorem know_Words_c (w : World) {A : Nat → Prop} (hA : ∀ b, w.heap.size ≤ b → A b) (s : ByteArray) {r : (List ByteArray)} (hm : know_Words s = some r) : Ret Tryz.prog 65 #[.string s] w fun v w' => ∃ s0, v = s0 ∧ Ownd 9 w w' s0 r ∧ Kp Dw w w' := by
  unfold know_Words at hm
  refine enter Tryz.func65 rfl Tryz.ntmps65 rfl ?_
  have hA0 := hA
  have hB := Nat.le_refl w.heap.size
  have hK : Tr Dw w.heap.size A w A w := Tr.refl (Dw := Dw) hA
  have hH : Hp w.heap.size A w [] := Hp.nil
  refine C_seq ?_
  refine C_region ?_
  refine V_y (Y_assign rfl) rfl rfl rfl ?_
  refine V_to (fun _ _ => rfl) ?_
  refine C_seq ?_
  refine C_region ?_
  refine V_y (Y_assign rfl) rfl rfl rfl ?_
  refine V_to (fun _ _ => rfl) ?_
  refine C_seq ?_
  refine C_seq ?_
  refine C_region ?_
  refine V_y (Y_assign rfl) rfl rfl rfl ?_
  refine V_to (fun _ _ => rfl) ?_
  replace hH : Hp w.heap.size A w (obS (α := ByteArray) 9 (.slice none 0 0) ([] : (List ByteArray)) :: []) := Hp.addNil (α := ByteArray) (e := 9) hH
  obtain ⟨o1, ho1, hm⟩ := Option.bind_eq_some_iff.1 hm
  refine C_cutG (ι := (((List ByteArray) × Int) × Value × (Nat → Prop))) (fun ⟨s2, v8, A10⟩ => [(3, v8)]) (fun ⟨s2, v8, A10⟩ => fun w' => o1 = .fin s2 ∧ Hp w.heap.size A10 w' (obS (α := ByteArray) 9 v8 s2.1 :: []) ∧ Tr Dw w.heap.size A w A10 w') ?_ ?_
  · refine C_block ?_
    refine C_while ho1 (fun s12 a w' => ∃ i : (Value × (Nat → Prop)), Has ⟨44, [], none⟩ a ([(0, .string s), (3, i.1), (4, .int .i64 s12.2)]) ∧ Hp w.heap.size i.2 w' (obS (α := ByteArray) 9 i.1 s12.1 :: []) ∧ Tr Dw w.heap.size A w i.2 w') (fun a ha => ⟨(.slice none 0 0, A), ha.sub ⟨rfl, rfl, rfl, trivial⟩, ⟨hH, Tr.refl (Dw := Dw) hA⟩⟩) ?_
    rintro K s12 a w13 ⟨⟨v14, A16⟩, ha83, hH17, hr3⟩ K24
    refine C_of ?_ ha83
    replace hK := Tr.trans (Dw := Dw) hK hr3
    replace hB := Nat.le_trans hB hr3.ex.size
    replace hA := hr3.new
    replace hH : Hp w.heap.size A16 w13 (obS (α := ByteArray) 9 v14 s12.1 :: []) := hH17
    obtain ⟨x18, h19, h20⟩ := K24
    refine C_seq ?_
    refine C_seq ?_
    refine C_region ?_
    refine V_y (Y_move rfl) rfl rfl rfl ?_
    refine V_y (Y_move rfl) rfl rfl rfl ?_
    refine V_y (Y_lenStr rfl Tryz.underlying9 rfl) rfl rfl rfl ?_
    refine V_y (Y_lss rfl rfl) rfl rfl rfl ?_
    refine V_to (fun _ _ => rfl) ?_
    refine C_cond rfl (fun hc25 => ?_) (fun hc25 => ?_)
    · rw [if_pos hc25] at h19
      refine C_skip_to (fun _ _ => rfl) ?_
      refine C_seq ?_
      refine C_block ?_
      refine C_seq ?_
      refine C_region ?_
      refine V_y (Y_move rfl) rfl rfl rfl ?_
      refine V_y (Y_assign rfl) rfl rfl rfl ?_
      refine V_to (fun _ _ => rfl) ?_
      refine C_seq ?_
      obtain ⟨o26, ho26, h19⟩ := Option.bind_eq_some_iff.1 h19
      refine C_cutG (ι := Int) (fun (s27 : Int) => [(0, .string s), (3, v14), (4, .int .i64 s12.2), (5, .int .i64 s27)]) (fun (s27 : Int) => fun w' => o26 = .fin s27 ∧ w13 = w') ?_ ?_
      · refine C_block ?_
        refine C_while ho26 (fun s33 a w' => ∃ i : Unit, Has ⟨44, [], none⟩ a ([(0, .string s), (3, v14), (4, .int .i64 s12.2), (5, .int .i64 s33)]) ∧ w13 = w') (fun a ha => ⟨(), ha.sub ⟨rfl, rfl, rfl, rfl, trivial⟩, rfl⟩) ?_
        rintro K s33 a _ ⟨_, ha48, rfl⟩ K41
        refine C_of ?_ ha48
        obtain ⟨x35, h36, h37⟩ := K41
        refine C_seq ?_
        refine C_seq ?_
        refine C_region ?_
        refine V_y (Y_move rfl) rfl rfl rfl ?_
        refine V_y (Y_move rfl) rfl rfl rfl ?_
        refine V_y (Y_lenStr rfl Tryz.underlying9 rfl) rfl rfl rfl ?_
        refine V_y (Y_lss rfl rfl) rfl rfl rfl ?_
        refine V_y (Y_move rfl) rfl rfl rfl ?_
        obtain ⟨s43, hs43, h36⟩ := Option.bind_eq_some_iff.1 h36
        refine V_cut 5 (fun _ : Unit => [(0, .string s), (3, v14), (4, .int .i64 s12.2), (5, .int .i64 s33), (22, .bool s43)]) (fun _ w' => w13 = w') ?_ ?_
        · simp only [List.take, List.drop]
          rcases Bool.eq_false_or_eq_true (decide (s33 < (s.size : Int))) with hc42 | hc42
          · rw [if_pos hc42] at hs43
            refine V_ge rfl rfl rfl hc42 ?_
            refine V_y (Y_move rfl) rfl rfl rfl ?_
            refine V_ge rfl rfl rfl hc42 ?_
            refine V_y (Y_move rfl) rfl rfl rfl ?_
            refine V_ge rfl rfl rfl hc42 ?_
            obtain ⟨x44, hx44, hs43⟩ := Option.bind_eq_some_iff.1 hs43
            refine V_y (Y_indexS hx44 Tryz.underlying9 rfl rfl) rfl rfl rfl ?_
            refine V_ge rfl rfl rfl hc42 ?_
            refine V_call Tryz.call97 rfl rfl rfl rfl (know_inWord_c w13 (x44.toNat : Int)) ?_
            rintro _ _ ⟨rfl, rfl⟩
            refine V_y (Y_pick_te rfl hc42 rfl) rfl rfl rfl ?_
            obtain rfl := Option.some.inj hs43
            exact V_end fun a ha => ⟨(), ha.sub ⟨rfl, rfl, rfl, rfl, rfl, trivial⟩, rfl⟩
          · rw [if_neg (nt hc42)] at hs43
            refine V_gn rfl rfl rfl hc42 rfl rfl rfl ?_
            refine V_gn rfl rfl rfl hc42 rfl rfl rfl ?_
            refine V_gn rfl rfl rfl hc42 rfl rfl rfl ?_
            refine V_gn rfl rfl rfl hc42 rfl rfl rfl ?_
            refine V_y (Y_pick_fe rfl hc42 rfl) rfl rfl rfl ?_
            obtain rfl := Option.some.inj hs43
            exact V_end fun a ha => ⟨(), ha.sub ⟨rfl, rfl, rfl, rfl, rfl, trivial⟩, rfl⟩
        simp only [List.take, List.drop]
        rintro _ _ rfl
        refine V_to (fun _ _ => rfl) ?_
        refine C_cond rfl (fun hc45 => ?_) (fun hc45 => ?_)
        · rw [if_pos hc45] at h36
          refine C_skip_to (fun _ _ => rfl) ?_
          refine C_block ?_
          refine C_region ?_
          refine V_y (Y_move rfl) rfl rfl rfl ?_
          refine V_y (Y_addI rfl rfl) rfl rfl rfl ?_
          refine V_y (Y_assign rfl) rfl rfl rfl ?_
          obtain rfl := Option.some.inj h36
          refine V_end (fun a ha46 => ?_)
          exact ⟨w64 (s33 + 1), h37, ⟨(), ha46.sub ⟨rfl, rfl, rfl, rfl, trivial⟩, rfl⟩⟩
        · rw [if_neg (nt hc45)] at h36
          obtain rfl := Option.some.inj h36
          refine C_exit (fun a ha47 => ?_)
          exact ⟨s33, ha47.sub ⟨rfl, rfl, rfl, rfl, trivial⟩, ⟨h37.symm, rfl⟩⟩
      rintro s27 _ ⟨rfl, rfl⟩ a ha32
      rw [Lp.andThen_fin] at h19
      refine C_at (n := ⟨44, [], none⟩) (fun _ _ => rfl) ?_ ha32
      refine C_seq ?_
      refine C_seq ?_
      refine C_region ?_
      refine V_y (Y_move rfl) rfl rfl rfl ?_
      refine V_y (Y_move rfl) rfl rfl rfl ?_
      refine V_y (Y_gtr rfl rfl) rfl rfl rfl ?_
      refine V_y (Y_move rfl) rfl rfl rfl ?_
      refine V_cut 5 (fun _ : Unit => [(0, .string s), (3, v14), (4, .int .i64 s12.2), (5, .int .i64 s27), (33, .bool ((decide (s12.2 < s27)) && (decide ((w64 (s27 - s12.2)) ≤ 30))))]) (fun _ w' => w13 = w') ?_ ?_
      · simp only [List.take, List.drop]
        rcases Bool.eq_false_or_eq_true (decide (s12.2 < s27)) with hc49 | hc49
        · refine V_ge rfl rfl rfl hc49 ?_
          refine V_y (Y_move rfl) rfl rfl rfl ?_
          refine V_ge rfl rfl rfl hc49 ?_
          refine V_y (Y_move rfl) rfl rfl rfl ?_
          refine V_ge rfl rfl rfl hc49 ?_
          refine V_y (Y_subI rfl rfl) rfl rfl rfl ?_
          refine V_ge rfl rfl rfl hc49 ?_
          refine V_y (Y_leq rfl rfl) rfl rfl rfl ?_
          refine V_y (Y_pick_te rfl hc49 rfl) rfl rfl rfl ?_
          exact V_end fun a ha => ⟨(), ha.sub ⟨rfl, rfl, rfl, rfl, (by rw [hc49]; rfl), trivial⟩, rfl⟩
        · refine V_gn rfl rfl rfl hc49 rfl rfl rfl ?_
          refine V_gn rfl rfl rfl hc49 rfl rfl rfl ?_
          refine V_gn rfl rfl rfl hc49 rfl rfl rfl ?_
          refine V_gn rfl rfl rfl hc49 rfl rfl rfl ?_
          refine V_y (Y_pick_fe rfl hc49 rfl) rfl rfl rfl ?_
          exact V_end fun a ha => ⟨(), ha.sub ⟨rfl, rfl, rfl, rfl, (by rw [hc49]; rfl), trivial⟩, rfl⟩
      simp only [List.take, List.drop]
      rintro _ _ rfl
      refine V_to (fun _ _ => rfl) ?_
      obtain ⟨s52, ho51, h19⟩ := Option.bind_eq_some_iff.1 h19
      refine C_cutG (ι := (Value × (Nat → Prop))) (fun ⟨v54, A59⟩ => [(0, .string s), (3, v54), (5, .int .i64 s27)]) (fun ⟨v54, A59⟩ => fun w' => Hp w.heap.size A59 w' (obS (α := ByteArray) 9 v54 s52 :: []) ∧ Tr Dw w.heap.size A16 w13 A59 w') ?_ ?_
      · have hr53 : Tr Dw w.heap.size A16 w13 A16 w13 := Tr.refl (Dw := Dw) hA
        refine C_cond rfl (fun hc61 => ?_) (fun hc61 => ?_)
        · rw [if_pos hc61] at ho51
          refine C_region ?_
          refine V_y (Y_move rfl) rfl rfl rfl ?_
          refine V_y (Y_move rfl) rfl rfl rfl ?_
          refine V_y (Y_move rfl) rfl rfl rfl ?_
          refine V_y (Y_move rfl) rfl rfl rfl ?_
          obtain ⟨x62, hx62, ho51⟩ := Option.bind_eq_some_iff.1 ho51
          refine V_y (Y_sliceSLH hx62 Tryz.underlying9 rfl rfl rfl) rfl rfl rfl ?_
          obtain ⟨x63, hx63, ho51⟩ := Option.bind_eq_some_iff.1 ho51
          refine V_call Tryz.call98 rfl rfl rfl rfl (know_lower_c (Dw := Dw) w13 hA x62 hx63) ?_
          rintro _ w65 ⟨rfl, hk66⟩
          have ht67 := Kp.tr (Dw := Dw) hk66 hA hB
          replace hH := Hp.kp (Dw := Dw) hH hk66
          replace hK := Tr.trans (Dw := Dw) hK ht67
          replace hr3 := Tr.trans (Dw := Dw) hr3 ht67
          replace hr53 := Tr.trans (Dw := Dw) hr53 ht67
          replace hB := Nat.le_trans hB ht67.ex.size
          replace hA := ht67.new
          refine V_buildSlice (Dw := Dw) (l := ([x63] : List ByteArray)) (len := 1) Tryz.underlying73 Tryz.sizeOf9 Tryz.zeroValue9 rfl (by with_unfolding_all rfl) (show (1 * 1 : Nat) ≠ 0 by decide) (show (1 * 1 : Nat) ≤ 2 ^ 24 by decide) hA ⟨[.string x63], _, rfl, rfl, rfl⟩ rfl rfl ?_
          intro v68 w69 hk71 h70
          have ht72 := Kp.tr (Dw := Dw) hk71 hA hB
          replace hH := Hp.kp (Dw := Dw) hH hk71
          replace hK := Tr.trans (Dw := Dw) hK ht72
          replace hr3 := Tr.trans (Dw := Dw) hr3 ht72
          replace hr53 := Tr.trans (Dw := Dw) hr53 ht72
          replace hB := Nat.le_trans hB ht72.ex.size
          replace hA := ht72.new
          obtain ⟨x73, hx73, ho51⟩ := Option.bind_eq_some_iff.1 ho51
          refine V_appendH (Dw := Dw) (e := 9) (v := v14) (l := s12.1) (ti := Tryz.t9) (bytes := 16) (lim := 8796093022208) hH (i := 0) rfl h70 hx73 Tryz.underlying73 Tryz_info9 rfl rfl rfl rfl (by decide) (by decide) (by decide) hB hA rfl rfl rfl ?_
          intro v74 w75 A76 hH77 ht78
          replace h70 := Sl.tr (Dw := Dw) h70 ht78
          replace hK := Tr.trans (Dw := Dw) hK ht78
          replace hr3 := Tr.trans (Dw := Dw) hr3 ht78
          replace hr53 := Tr.trans (Dw := Dw) hr53 ht78
          replace hB := Nat.le_trans hB ht78.ex.size
          replace hA := ht78.new
          replace hH : Hp w.heap.size A76 w75 (obS (α := ByteArray) 9 v74 x73 :: []) := hH77
          refine V_y (Y_assign rfl) rfl rfl rfl ?_
          obtain rfl := Option.some.inj ho51
          refine V_end (fun a ha79 => ?_)
          exact ⟨(v74, A76), ha79.sub ⟨rfl, rfl, rfl, trivial⟩, ⟨hH, hr53⟩⟩
        · rw [if_neg (nt hc61)] at ho51
          obtain rfl := Option.some.inj ho51
          refine C_skip (fun a ha80 => ?_)
          exact ⟨(v14, A16), ha80.sub ⟨rfl, rfl, rfl, trivial⟩, ⟨hH, hr53⟩⟩
      rintro ⟨v54, A59⟩ w56 ⟨hH60, hk57⟩ a ha58
      replace hK := Tr.trans (Dw := Dw) hK hk57
      replace hr3 := Tr.trans (Dw := Dw) hr3 hk57
      replace hB := Nat.le_trans hB hk57.ex.size
      replace hA := hk57.new
      replace hH : Hp w.heap.size A59 w56 (obS (α := ByteArray) 9 v54 s52 :: []) := hH60
      refine C_at (n := ⟨44, [], none⟩) (fun _ _ => rfl) ?_ ha58
      refine C_region ?_
      refine V_y (Y_move rfl) rfl rfl rfl ?_
      refine V_y (Y_assign rfl) rfl rfl rfl ?_
      refine V_to (fun _ _ => rfl) ?_
      refine C_region ?_
      refine V_y (Y_move rfl) rfl rfl rfl ?_
      refine V_y (Y_addI rfl rfl) rfl rfl rfl ?_
      refine V_y (Y_assign rfl) rfl rfl rfl ?_
      obtain rfl := Option.some.inj h19
      refine V_end (fun a ha81 => ?_)
      exact ⟨(s52, w64 (s27 + 1)), h20, ⟨(v54, A59), ha81.sub ⟨rfl, rfl, rfl, trivial⟩, ⟨hH, hr3⟩⟩⟩
    · rw [if_neg (nt hc25)] at h19
      obtain rfl := Option.some.inj h19
      refine C_exit (fun a ha82 => ?_)
      exact ⟨((s12.1, s12.2), v14, A16), ha82.sub ⟨rfl, trivial⟩, ⟨h20.symm, hH, hr3⟩⟩
  rintro ⟨s2, v8, A10⟩ w5 ⟨rfl, hH11, hk6⟩ a ha7
  rw [Lp.andThen_fin] at hm
  replace hK := Tr.trans (Dw := Dw) hK hk6
  replace hB := Nat.le_trans hB hk6.ex.size
  replace hA := hk6.new
  replace hH : Hp w.heap.size A10 w5 (obS (α := ByteArray) 9 v8 s2.1 :: []) := hH11
  refine C_at (n := ⟨44, [], none⟩) (fun _ _ => rfl) ?_ ha7
  refine C_seq ?_
  refine C_region ?_
  refine V_y (Y_move rfl) rfl rfl rfl ?_
  refine V_y (Y_assign rfl) rfl rfl rfl ?_
  refine V_to (fun _ _ => rfl) ?_
  obtain rfl := Option.some.inj hm
  refine C_ret ?_
  try simp only [↓inBlock_ret, ↓then_ret]
  exact retQ rfl (Res.one Tryz.results65 rfl) ⟨v8, rfl, (Hp.ownd hH (i := 0) rfl), hK.kp⟩

set_option maxRecDepth 4000 in
set_option maxHeartbeats 4000000 in
theorem internal_stringslite_HasSuffix_c (w : World) (s : ByteArray) (suffix : ByteArray) {r : Bool} (hm : internal_stringslite_HasSuffix s suffix = some r) : Ret Tryz.prog 151 #[.string s, .string suffix] w fun v w' => v = .bool r ∧ w = w' := by
  unfold internal_stringslite_HasSuffix at hm
  refine enter Tryz.func151 rfl Tryz.ntmps151 rfl ?_
  refine C_seq ?_
  refine C_region ?_
  refine V_y (Y_assign rfl) rfl rfl rfl ?_
  refine V_to (fun _ _ => rfl) ?_
  refine C_seq ?_
  refine C_region ?_
  refine V_y (Y_move rfl) rfl rfl rfl ?_
  refine V_y (Y_lenStr rfl Tryz.underlying9 rfl) rfl rfl rfl ?_
  refine V_y (Y_move rfl) rfl rfl rfl ?_
  refine V_y (Y_lenStr rfl Tryz.underlying9 rfl) rfl rfl rfl ?_
  refine V_y (Y_geq rfl rfl) rfl rfl rfl ?_
  refine V_y (Y_move rfl) rfl rfl rfl ?_
  obtain ⟨s2, hs2, hm⟩ := Option.bind_eq_some_iff.1 hm
  refine V_cut 10 (fun _ : Unit => [(20, .bool s2)]) (fun _ w' => w = w') ?_ ?_
  · simp only [List.take, List.drop]
    rcases Bool.eq_false_or_eq_true (decide ((suffix.size : Int) ≤ (s.size : Int))) with hc1 | hc1
    · rw [if_pos hc1] at hs2
      refine V_ge rfl rfl rfl hc1 ?_
      refine V_y (Y_move rfl) rfl rfl rfl ?_
      refine V_ge rfl rfl rfl hc1 ?_
      refine V_y (Y_move rfl) rfl rfl rfl ?_
      refine V_ge rfl rfl rfl hc1 ?_
      refine V_y (Y_lenStr rfl Tryz.underlying9 rfl) rfl rfl rfl ?_
      refine V_ge rfl rfl rfl hc1 ?_
      refine V_y (Y_move rfl) rfl rfl rfl ?_
      refine V_ge rfl rfl rfl hc1 ?_
      refine V_y (Y_lenStr rfl Tryz.underlying9 rfl) rfl rfl rfl ?_
      refine V_ge rfl rfl rfl hc1 ?_
      refine V_y (Y_subI rfl rfl) rfl rfl rfl ?_
      refine V_ge rfl rfl rfl hc1 ?_
      obtain ⟨x3, hx3, hs2⟩ := Option.bind_eq_some_iff.1 hs2
      refine V_y (Y_sliceSL hx3 Tryz.underlying9 rfl rfl) rfl rfl rfl ?_
      refine V_ge rfl rfl rfl hc1 ?_
      refine V_y (Y_move rfl) rfl rfl rfl ?_
      refine V_ge rfl rfl rfl hc1 ?_
      refine V_y (Y_seql rfl rfl) rfl rfl rfl ?_
      refine V_y (Y_pick_te rfl hc1 rfl) rfl rfl rfl ?_
      obtain rfl := Option.some.inj hs2
      exact V_end fun a ha => ⟨(), ha.sub ⟨rfl, trivial⟩, rfl⟩
    · rw [if_neg (nt hc1)] at hs2
      refine V_gn rfl rfl rfl hc1 rfl rfl rfl ?_
      refine V_gn rfl rfl rfl hc1 rfl rfl rfl ?_
      refine V_gn rfl rfl rfl hc1 rfl rfl rfl ?_
      refine V_gn rfl rfl rfl hc1 rfl rfl rfl ?_
      refine V_gn rfl rfl rfl hc1 rfl rfl rfl ?_
      refine V_gn rfl rfl rfl hc1 rfl rfl rfl ?_
      refine V_gn rfl rfl rfl hc1 rfl rfl rfl ?_
      refine V_gn rfl rfl rfl hc1 rfl rfl rfl ?_
      refine V_gn rfl rfl rfl hc1 rfl rfl rfl ?_
      refine V_y (Y_pick_fe rfl hc1 rfl) rfl rfl rfl ?_
      obtain rfl := Option.some.inj hs2
      exact V_end fun a ha => ⟨(), ha.sub ⟨rfl, trivial⟩, rfl⟩
  simp only [List.take, List.drop]
  rintro _ _ rfl
  refine V_y (Y_assign rfl) rfl rfl rfl ?_
  refine V_to (fun _ _ => rfl) ?_
  obtain rfl := Option.some.inj hm
  refine C_ret ?_
  try simp only [↓inBlock_ret, ↓then_ret]
  exact retQ rfl (Res.one Tryz.results151 rfl) ⟨rfl, rfl⟩

set_option maxRecDepth 4000 in
set_option maxHeartbeats 4000000 in
theorem strings_HasSuffix_c (w : World) (s : ByteArray) (suffix : ByteArray) {r : Bool} (hm : strings_HasSuffix s suffix = some r) : Ret Tryz.prog 112 #[.string s, .string suffix] w fun v w' => v = .bool r ∧ w = w' := by
  unfold strings_HasSuffix at hm
  refine enter Tryz.func112 rfl Tryz.ntmps112 rfl ?_
  refine C_seq ?_
  refine C_region ?_
  refine V_y (Y_assign rfl) rfl rfl rfl ?_
  refine V_to (fun _ _ => rfl) ?_
  refine C_seq ?_
  refine C_region ?_
  refine V_y (Y_move rfl) rfl rfl rfl ?_
  refine V_y (Y_move rfl) rfl rfl rfl ?_
  obtain ⟨x1, hx1, hm⟩ := Option.bind_eq_some_iff.1 hm
  refine V_call Tryz.call151 rfl rfl rfl rfl (internal_stringslite_HasSuffix_c w s suffix hx1) ?_
  rintro _ _ ⟨rfl, rfl⟩
  refine V_y (Y_assign rfl) rfl rfl rfl ?_
  refine V_to (fun _ _ => rfl) ?_
  obtain rfl := Option.some.inj hm
  refine C_ret ?_
  try simp only [↓inBlock_ret, ↓then_ret]
  exact retQ rfl (Res.one Tryz.results112 rfl) ⟨rfl, rfl⟩

set_option maxRecDepth 4000 in
set_option maxHeartbeats 4000000 in
theorem know_Stem_c (w : World) (word : ByteArray) {r : ByteArray} (hm : know_Stem word = some r) : Ret Tryz.prog 104 #[.string word] w fun v w' => v = .string r ∧ w = w' := by
  unfold know_Stem at hm
  refine enter Tryz.func104 rfl Tryz.ntmps104 rfl ?_
  refine C_seq ?_
  refine C_region ?_
  refine V_y (Y_assign rfl) rfl rfl rfl ?_
  refine V_to (fun _ _ => rfl) ?_
  refine C_seq ?_
  refine C_seq ?_
  refine C_region ?_
  refine V_y (Y_move rfl) rfl rfl rfl ?_
  refine V_y (Y_lenStr rfl Tryz.underlying9 rfl) rfl rfl rfl ?_
  refine V_y (Y_move rfl) rfl rfl rfl ?_
  refine V_to (fun _ _ => rfl) ?_
  obtain ⟨o1, ho1, hm⟩ := Option.bind_eq_some_iff.1 hm
  refine C_cutG (ι := Int) (fun (s2 : Int) => [(0, .string word)]) (fun (s2 : Int) => fun w' => o1 = .fin s2 ∧ w = w') ?_ ?_
  · refine C_block ?_
    refine C_while ho1 (fun s8 a w' => ∃ i : Unit, Has ⟨77, [], none⟩ a ([(0, .string word), (6, .int .i64 (word.size : Int)), (7, .int .i64 s8)]) ∧ w = w') (fun a ha => ⟨(), ha.sub ⟨rfl, rfl, rfl, trivial⟩, rfl⟩) ?_
    rintro K s8 a _ ⟨_, ha24, rfl⟩ K16
    refine C_of ?_ ha24
    obtain ⟨x10, h11, h12⟩ := K16
    refine C_seq ?_
    refine C_region ?_
    refine V_y (Y_lss rfl rfl) rfl rfl rfl ?_
    refine V_to (fun _ _ => rfl) ?_
    refine C_seq ?_
    refine C_cond rfl (fun hc17 => ?_) (fun hc17 => ?_)
    · rw [if_pos hc17] at h11
      refine C_skip_to (fun _ _ => rfl) ?_
      refine C_seq ?_
      refine C_block ?_
      refine C_seq ?_
      refine C_region ?_
      refine V_y (Y_move rfl) rfl rfl rfl ?_
      refine V_y (Y_assign rfl) rfl rfl rfl ?_
      refine V_to (fun _ _ => rfl) ?_
      refine C_seq ?_
      refine C_region ?_
      refine V_y (Y_move rfl) rfl rfl rfl ?_
      refine V_y (Y_move rfl) rfl rfl rfl ?_
      obtain ⟨x18, hx18, h11⟩ := Option.bind_eq_some_iff.1 h11
      refine V_y (Y_indexS hx18 Tryz.underlying9 rfl rfl) rfl rfl rfl ?_
      refine V_y (Y_lss rfl rfl) rfl rfl rfl ?_
      refine V_y (Y_move rfl) rfl rfl rfl ?_
      obtain ⟨s20, hs20, h11⟩ := Option.bind_eq_some_iff.1 h11
      refine V_cut 5 (fun _ : Unit => [(0, .string word), (6, .int .i64 (word.size : Int)), (7, .int .i64 s8), (19, .bool s20)]) (fun _ w' => w = w') ?_ ?_
      · simp only [List.take, List.drop]
        rcases Bool.eq_false_or_eq_true (decide ((x18.toNat : Int) < 97)) with hc19 | hc19
        · rw [if_pos hc19] at hs20
          refine V_gn rfl rfl rfl hc19 rfl rfl rfl ?_
          refine V_gn rfl rfl rfl hc19 rfl rfl rfl ?_
          refine V_gn rfl rfl rfl hc19 rfl rfl rfl ?_
          refine V_gn rfl rfl rfl hc19 rfl rfl rfl ?_
          refine V_y (Y_pick_te rfl hc19 rfl) rfl rfl rfl ?_
          obtain rfl := Option.some.inj hs20
          exact V_end fun a ha => ⟨(), ha.sub ⟨rfl, rfl, rfl, rfl, trivial⟩, rfl⟩
        · rw [if_neg (nt hc19)] at hs20
          refine V_ge rfl rfl rfl hc19 ?_
          refine V_y (Y_move rfl) rfl rfl rfl ?_
          refine V_ge rfl rfl rfl hc19 ?_
          refine V_y (Y_move rfl) rfl rfl rfl ?_
          refine V_ge rfl rfl rfl hc19 ?_
          refine V_y (Y_indexS hx18 Tryz.underlying9 rfl rfl) rfl rfl rfl ?_
          refine V_ge rfl rfl rfl hc19 ?_
          refine V_y (Y_gtr rfl rfl) rfl rfl rfl ?_
          refine V_y (Y_pick_fe rfl hc19 rfl) rfl rfl rfl ?_
          obtain rfl := Option.some.inj hs20
          exact V_end fun a ha => ⟨(), ha.sub ⟨rfl, rfl, rfl, rfl, trivial⟩, rfl⟩
      simp only [List.take, List.drop]
      rintro _ _ rfl
      refine V_to (fun _ _ => rfl) ?_
      refine C_cond rfl (fun hc21 => ?_) (fun hc21 => ?_)
      · rw [if_pos hc21] at h11
        refine C_seq ?_
        refine C_region ?_
        refine V_y (Y_move rfl) rfl rfl rfl ?_
        refine V_y (Y_assign rfl) rfl rfl rfl ?_
        refine V_to (fun _ _ => rfl) ?_
        obtain rfl := Option.some.inj h11
        obtain rfl := (h12 : Lp.rt _ = _)
        rw [Lp.andThen_rt] at hm
        obtain rfl := Option.some.inj hm
        refine C_ret ?_
        try simp only [↓inBlock_ret, ↓then_ret]
        exact retQ rfl (Res.one Tryz.results104 rfl) ⟨rfl, rfl⟩
      · rw [if_neg (nt hc21)] at h11
        refine C_skip_to (fun _ _ => rfl) ?_
        refine C_region ?_
        refine V_y (Y_addI rfl rfl) rfl rfl rfl ?_
        refine V_y (Y_move rfl) rfl rfl rfl ?_
        obtain rfl := Option.some.inj h11
        refine V_end (fun a ha22 => ?_)
        exact ⟨w64 (s8 + 1), h12, ⟨(), ha22.sub ⟨rfl, rfl, rfl, trivial⟩, rfl⟩⟩
    · rw [if_neg (nt hc17)] at h11
      obtain rfl := Option.some.inj h11
      refine C_exit (fun a ha23 => ?_)
      exact ⟨s8, ha23.sub ⟨rfl, trivial⟩, ⟨h12.symm, rfl⟩⟩
  rintro s2 _ ⟨rfl, rfl⟩ a ha7
  rw [Lp.andThen_fin] at hm
  refine C_at (n := ⟨77, [], none⟩) (fun _ _ => rfl) ?_ ha7
  refine C_seq ?_
  refine C_region ?_
  refine V_y (Y_move rfl) rfl rfl rfl ?_
  refine V_y (Y_lenStr rfl Tryz.underlying9 rfl) rfl rfl rfl ?_
  refine V_y (Y_assign rfl) rfl rfl rfl ?_
  refine V_to (fun _ _ => rfl) ?_
  refine C_seq ?_
  refine C_block ?_
  refine C_seq ?_
  refine C_region ?_
  refine V_y (Y_move rfl) rfl rfl rfl ?_
  refine V_y (Y_lss rfl rfl) rfl rfl rfl ?_
  refine V_y (Y_assign rfl) rfl rfl rfl ?_
  refine V_to (fun _ _ => rfl) ?_
  refine C_cond rfl (fun hc25 => ?_) (fun hc25 => ?_)
  · rw [if_pos hc25] at hm
    refine C_seq ?_
    refine C_region ?_
    refine V_y (Y_move rfl) rfl rfl rfl ?_
    refine V_y (Y_assign rfl) rfl rfl rfl ?_
    refine V_to (fun _ _ => rfl) ?_
    obtain rfl := Option.some.inj hm
    refine C_ret ?_
    try simp only [↓inBlock_ret, ↓then_ret]
    exact retQ rfl (Res.one Tryz.results104 rfl) ⟨rfl, rfl⟩
  · rw [if_neg (nt hc25)] at hm
    refine C_seq ?_
    refine C_region ?_
    refine V_y (Y_move rfl) rfl rfl rfl ?_
    obtain ⟨x26, hx26, hm⟩ := Option.bind_eq_some_iff.1 hm
    refine V_call Tryz.call112 rfl rfl rfl rfl (strings_HasSuffix_c w word (⟨#[105, 101, 115]⟩ : ByteArray) hx26) ?_
    rintro _ _ ⟨rfl, rfl⟩
    refine V_y (Y_assign rfl) rfl rfl rfl ?_
    refine V_to (fun _ _ => rfl) ?_
    refine C_cond rfl (fun hc27 => ?_) (fun hc27 => ?_)
    · rw [if_pos hc27] at hm
      refine C_seq ?_
      refine C_region ?_
      refine V_y (Y_move rfl) rfl rfl rfl ?_
      refine V_y (Y_move rfl) rfl rfl rfl ?_
      refine V_y (Y_subI rfl rfl) rfl rfl rfl ?_
      obtain ⟨x28, hx28, hm⟩ := Option.bind_eq_some_iff.1 hm
      refine V_y (Y_sliceSH hx28 Tryz.underlying9 rfl rfl) rfl rfl rfl ?_
      obtain ⟨x29, hx29, hm⟩ := Option.bind_eq_some_iff.1 hm
      refine V_y (Y_sadd hx29 rfl rfl) rfl rfl rfl ?_
      refine V_y (Y_assign rfl) rfl rfl rfl ?_
      refine V_to (fun _ _ => rfl) ?_
      obtain rfl := Option.some.inj hm
      refine C_ret ?_
      try simp only [↓inBlock_ret, ↓then_ret]
      exact retQ rfl (Res.one Tryz.results104 rfl) ⟨rfl, rfl⟩
    · rw [if_neg (nt hc27)] at hm
      refine C_seq ?_
      refine C_region ?_
      refine V_y (Y_move rfl) rfl rfl rfl ?_
      obtain ⟨x30, hx30, hm⟩ := Option.bind_eq_some_iff.1 hm
      refine V_call Tryz.call112 rfl rfl rfl rfl (strings_HasSuffix_c w word (⟨#[115, 115, 101, 115]⟩ : ByteArray) hx30) ?_
      rintro _ _ ⟨rfl, rfl⟩
      refine V_y (Y_assign rfl) rfl rfl rfl ?_
      refine V_to (fun _ _ => rfl) ?_
      refine C_cond rfl (fun hc31 => ?_) (fun hc31 => ?_)
      · rw [if_pos hc31] at hm
        refine C_seq ?_
        refine C_region ?_
        refine V_y (Y_move rfl) rfl rfl rfl ?_
        refine V_y (Y_move rfl) rfl rfl rfl ?_
        refine V_y (Y_subI rfl rfl) rfl rfl rfl ?_
        obtain ⟨x32, hx32, hm⟩ := Option.bind_eq_some_iff.1 hm
        refine V_y (Y_sliceSH hx32 Tryz.underlying9 rfl rfl) rfl rfl rfl ?_
        refine V_y (Y_assign rfl) rfl rfl rfl ?_
        refine V_to (fun _ _ => rfl) ?_
        obtain rfl := Option.some.inj hm
        refine C_ret ?_
        try simp only [↓inBlock_ret, ↓then_ret]
        exact retQ rfl (Res.one Tryz.results104 rfl) ⟨rfl, rfl⟩
      · rw [if_neg (nt hc31)] at hm
        refine C_seq ?_
        refine C_region ?_
        refine V_y (Y_move rfl) rfl rfl rfl ?_
        obtain ⟨x33, hx33, hm⟩ := Option.bind_eq_some_iff.1 hm
        refine V_call Tryz.call112 rfl rfl rfl rfl (strings_HasSuffix_c w word (⟨#[115, 115]⟩ : ByteArray) hx33) ?_
        rintro _ _ ⟨rfl, rfl⟩
        refine V_y (Y_assign rfl) rfl rfl rfl ?_
        refine V_to (fun _ _ => rfl) ?_
        refine C_cond rfl (fun hc34 => ?_) (fun hc34 => ?_)
        · rw [if_pos hc34] at hm
          refine C_seq ?_
          refine C_region ?_
          refine V_y (Y_move rfl) rfl rfl rfl ?_
          refine V_y (Y_assign rfl) rfl rfl rfl ?_
          refine V_to (fun _ _ => rfl) ?_
          obtain rfl := Option.some.inj hm
          refine C_ret ?_
          try simp only [↓inBlock_ret, ↓then_ret]
          exact retQ rfl (Res.one Tryz.results104 rfl) ⟨rfl, rfl⟩
        · rw [if_neg (nt hc34)] at hm
          refine C_seq ?_
          refine C_region ?_
          refine V_y (Y_move rfl) rfl rfl rfl ?_
          obtain ⟨x35, hx35, hm⟩ := Option.bind_eq_some_iff.1 hm
          refine V_call Tryz.call112 rfl rfl rfl rfl (strings_HasSuffix_c w word (⟨#[115]⟩ : ByteArray) hx35) ?_
          rintro _ _ ⟨rfl, rfl⟩
          refine V_y (Y_assign rfl) rfl rfl rfl ?_
          refine V_to (fun _ _ => rfl) ?_
          refine C_cond rfl (fun hc36 => ?_) (fun hc36 => ?_)
          · rw [if_pos hc36] at hm
            refine C_seq ?_
            refine C_region ?_
            refine V_y (Y_move rfl) rfl rfl rfl ?_
            refine V_y (Y_move rfl) rfl rfl rfl ?_
            refine V_y (Y_subI rfl rfl) rfl rfl rfl ?_
            obtain ⟨x37, hx37, hm⟩ := Option.bind_eq_some_iff.1 hm
            refine V_y (Y_sliceSH hx37 Tryz.underlying9 rfl rfl) rfl rfl rfl ?_
            refine V_y (Y_assign rfl) rfl rfl rfl ?_
            refine V_to (fun _ _ => rfl) ?_
            obtain rfl := Option.some.inj hm
            refine C_ret ?_
            try simp only [↓inBlock_ret, ↓then_ret]
            exact retQ rfl (Res.one Tryz.results104 rfl) ⟨rfl, rfl⟩
          · rw [if_neg (nt hc36)] at hm
            refine C_seq ?_
            refine C_region ?_
            refine V_y (Y_move rfl) rfl rfl rfl ?_
            obtain ⟨x38, hx38, hm⟩ := Option.bind_eq_some_iff.1 hm
            refine V_call Tryz.call112 rfl rfl rfl rfl (strings_HasSuffix_c w word (⟨#[105, 110, 103]⟩ : ByteArray) hx38) ?_
            rintro _ _ ⟨rfl, rfl⟩
            refine V_y (Y_move rfl) rfl rfl rfl ?_
            refine V_cut 3 (fun _ : Unit => [(0, .string word), (4, .int .i64 (word.size : Int)), (60, .bool (x38 && (decide ((6 : Int) ≤ (word.size : Int)))))]) (fun _ w' => w = w') ?_ ?_
            · simp only [List.take, List.drop]
              rcases Bool.eq_false_or_eq_true (x38) with hc39 | hc39
              · refine V_ge rfl rfl rfl hc39 ?_
                refine V_y (Y_move rfl) rfl rfl rfl ?_
                refine V_ge rfl rfl rfl hc39 ?_
                refine V_y (Y_geq rfl rfl) rfl rfl rfl ?_
                refine V_y (Y_pick_te rfl hc39 rfl) rfl rfl rfl ?_
                exact V_end fun a ha => ⟨(), ha.sub ⟨rfl, rfl, (by rw [hc39]; rfl), trivial⟩, rfl⟩
              · refine V_gn rfl rfl rfl hc39 rfl rfl rfl ?_
                refine V_gn rfl rfl rfl hc39 rfl rfl rfl ?_
                refine V_y (Y_pick_fe rfl hc39 rfl) rfl rfl rfl ?_
                exact V_end fun a ha => ⟨(), ha.sub ⟨rfl, rfl, (by rw [hc39]; rfl), trivial⟩, rfl⟩
            simp only [List.take, List.drop]
            rintro _ _ rfl
            refine V_y (Y_assign rfl) rfl rfl rfl ?_
            refine V_to (fun _ _ => rfl) ?_
            refine C_cond rfl (fun hc41 => ?_) (fun hc41 => ?_)
            · rw [if_pos hc41] at hm
              refine C_seq ?_
              refine C_region ?_
              refine V_y (Y_move rfl) rfl rfl rfl ?_
              refine V_y (Y_move rfl) rfl rfl rfl ?_
              refine V_y (Y_subI rfl rfl) rfl rfl rfl ?_
              obtain ⟨x42, hx42, hm⟩ := Option.bind_eq_some_iff.1 hm
              refine V_y (Y_sliceSH hx42 Tryz.underlying9 rfl rfl) rfl rfl rfl ?_
              refine V_y (Y_assign rfl) rfl rfl rfl ?_
              refine V_to (fun _ _ => rfl) ?_
              obtain rfl := Option.some.inj hm
              refine C_ret ?_
              try simp only [↓inBlock_ret, ↓then_ret]
              exact retQ rfl (Res.one Tryz.results104 rfl) ⟨rfl, rfl⟩
            · rw [if_neg (nt hc41)] at hm
              refine C_seq ?_
              refine C_region ?_
              refine V_y (Y_move rfl) rfl rfl rfl ?_
              obtain ⟨x43, hx43, hm⟩ := Option.bind_eq_some_iff.1 hm
              refine V_call Tryz.call112 rfl rfl rfl rfl (strings_HasSuffix_c w word (⟨#[101, 100]⟩ : ByteArray) hx43) ?_
              rintro _ _ ⟨rfl, rfl⟩
              refine V_y (Y_move rfl) rfl rfl rfl ?_
              refine V_cut 3 (fun _ : Unit => [(0, .string word), (4, .int .i64 (word.size : Int)), (71, .bool (x43 && (decide ((5 : Int) ≤ (word.size : Int)))))]) (fun _ w' => w = w') ?_ ?_
              · simp only [List.take, List.drop]
                rcases Bool.eq_false_or_eq_true (x43) with hc44 | hc44
                · refine V_ge rfl rfl rfl hc44 ?_
                  refine V_y (Y_move rfl) rfl rfl rfl ?_
                  refine V_ge rfl rfl rfl hc44 ?_
                  refine V_y (Y_geq rfl rfl) rfl rfl rfl ?_
                  refine V_y (Y_pick_te rfl hc44 rfl) rfl rfl rfl ?_
                  exact V_end fun a ha => ⟨(), ha.sub ⟨rfl, rfl, (by rw [hc44]; rfl), trivial⟩, rfl⟩
                · refine V_gn rfl rfl rfl hc44 rfl rfl rfl ?_
                  refine V_gn rfl rfl rfl hc44 rfl rfl rfl ?_
                  refine V_y (Y_pick_fe rfl hc44 rfl) rfl rfl rfl ?_
                  exact V_end fun a ha => ⟨(), ha.sub ⟨rfl, rfl, (by rw [hc44]; rfl), trivial⟩, rfl⟩
              simp only [List.take, List.drop]
              rintro _ _ rfl
              refine V_y (Y_assign rfl) rfl rfl rfl ?_
              refine V_to (fun _ _ => rfl) ?_
              refine C_cond rfl (fun hc46 => ?_) (fun hc46 => ?_)
              · rw [if_pos hc46] at hm
                refine C_seq ?_
                refine C_region ?_
                refine V_y (Y_move rfl) rfl rfl rfl ?_
                refine V_y (Y_move rfl) rfl rfl rfl ?_
                refine V_y (Y_subI rfl rfl) rfl rfl rfl ?_
                obtain ⟨x47, hx47, hm⟩ := Option.bind_eq_some_iff.1 hm
                refine V_y (Y_sliceSH hx47 Tryz.underlying9 rfl rfl) rfl rfl rfl ?_
                refine V_y (Y_assign rfl) rfl rfl rfl ?_
                refine V_to (fun _ _ => rfl) ?_
                obtain rfl := Option.some.inj hm
                refine C_ret ?_
                try simp only [↓inBlock_ret, ↓then_ret]
                exact retQ rfl (Res.one Tryz.results104 rfl) ⟨rfl, rfl⟩
              · rw [if_neg (nt hc46)] at hm
                refine C_skip_to (fun _ _ => rfl) ?_
                refine C_seq ?_
                refine C_region ?_
                refine V_y (Y_move rfl) rfl rfl rfl ?_
                refine V_y (Y_assign rfl) rfl rfl rfl ?_
                refine V_to (fun _ _ => rfl) ?_
                obtain rfl := Option.some.inj hm
                refine C_ret ?_
                try simp only [↓inBlock_ret, ↓then_ret]
                exact retQ rfl (Res.one Tryz.results104 rfl) ⟨rfl, rfl⟩

def Tryz_cp82_ren : Go.Shelf.Ren := ⟨fun | 125 => 93 | 128 => 124 | 129 => 125 | 190 => 82 | 258 => 113 | 302 => 152 | 303 => 153 | 304 => 154 | 305 => 155 | 306 => 156 | 307 => 157 | 308 => 158 | 309 => 159 | 310 => 160 | 329 => 163 | 330 => 164 | 333 => 180 | 334 => 181 | 335 => 182 | 336 => 183 | 344 => 194 | n => n, fun | 0 => 0 | 1 => 1 | 2 => 2 | 3 => 3 | 4 => 4 | 5 => 5 | 6 => 6 | 7 => 7 | 8 => 8 | 9 => 9 | 10 => 10 | 11 => 11 | 12 => 12 | 13 => 13 | 14 => 14 | 15 => 15 | 16 => 16 | 17 => 17 | 18 => 18 | 19 => 19 | 20 => 20 | 21 => 21 | 22 => 208 | 23 => 207 | 27 => 160 | 28 => 23 | 29 => 162 | 30 => 166 | 31 => 73 | 34 => 79 | 35 => 252 | 37 => 227 | 40 => 205 | 41 => 198 | 43 => 157 | 46 => 191 | 47 => 196 | 51 => 219 | 52 => 218 | 53 => 221 | 54 => 220 | 55 => 263 | 63 => 265 | 64 => 280 | 65 => 206 | 66 => 177 | 68 => 164 | 69 => 182 | 70 => 229 | 71 => 230 | 72 => 231 | 73 => 232 | 74 => 233 | 75 => 234 | 76 => 235 | 77 => 236 | 80 => 239 | 81 => 289 | 100 => 183 | 101 => 76 | 103 => 262 | 104 => 176 | 105 => 237 | 106 => 238 | 111 => 193 | 112 => 192 | 114 => 275 | 115 => 241 | 116 => 242 | 117 => 243 | 118 => 244 | 119 => 276 | 122 => 240 | 123 => 245 | 124 => 246 | 127 => 264 | 131 => 150 | 135 => 209 | 137 => 277 | 138 => 278 | 139 => 279 | 146 => 282 | 151 => 283 | 155 => 261 | 164 => 272 | 165 => 273 | 166 => 274 | 182 => 212 | 183 => 213 | 188 => 247 | 189 => 248 | 190 => 249 | 191 => 250 | 192 => 251 | 218 => 253 | 219 => 254 | 220 => 255 | 222 => 257 | 224 => 266 | 225 => 267 | 228 => 268 | 229 => 269 | 231 => 281 | 238 => 284 | 239 => 285 | 240 => 286 | 241 => 287 | 242 => 288 | 243 => 290 | 244 => 291 | 245 => 292 | 246 => 293 | 247 => 294 | 248 => 295 | 249 => 296 | n => n, fun | 1 => 0 | 3 => 1 | 4 => 2 | n => n⟩
theorem Tryz_cp82_lay : Go.Proofs.Lays.n190 Tryz.prog Tryz_cp82_ren := {
  mixed := by kernel_rfl,
  f125 := Tryz.func93.trans (congrArg some (by kernel_rfl)),
  f128 := Tryz.func124.trans (congrArg some (by kernel_rfl)),
  f129 := Tryz.func125.trans (congrArg some (by kernel_rfl)),
  f190 := Tryz.func82.trans (congrArg some (by kernel_rfl)),
  f258 := Tryz.func113.trans (congrArg some (by kernel_rfl)),
  f302 := Tryz.func152.trans (congrArg some (by kernel_rfl)),
  f303 := Tryz.func153.trans (congrArg some (by kernel_rfl)),
  f304 := Tryz.func154.trans (congrArg some (by kernel_rfl)),
  f305 := Tryz.func155.trans (congrArg some (by kernel_rfl)),
  f306 := Tryz.func156.trans (congrArg some (by kernel_rfl)),
  f307 := Tryz.func157.trans (congrArg some (by kernel_rfl)),
  f308 := Tryz.func158.trans (congrArg some (by kernel_rfl)),
  f309 := Tryz.func159.trans (congrArg some (by kernel_rfl)),
  f310 := Tryz.func160.trans (congrArg some (by kernel_rfl)),
  f329 := Tryz.func163.trans (congrArg some (by kernel_rfl)),
  f330 := Tryz.func164.trans (congrArg some (by kernel_rfl)),
  f333 := Tryz.func180.trans (congrArg some (by kernel_rfl)),
  f334 := Tryz.func181.trans (congrArg some (by kernel_rfl)),
  f335 := Tryz.func182.trans (congrArg some (by kernel_rfl)),
  f336 := Tryz.func183.trans (congrArg some (by kernel_rfl)),
  f344 := Tryz.func194.trans (congrArg some (by kernel_rfl)),
  t0 := Tryz.underlying0,
  a0 := Tryz.isAgg0,
  z0 := Tryz.sizeOf0,
  v0 := Tryz.zeroValue0,
  t3 := Tryz.underlying3,
  a3 := Tryz.isAgg3,
  z3 := Tryz.sizeOf3,
  v3 := Tryz.zeroValue3,
  t4 := Tryz.underlying4,
  a4 := Tryz.isAgg4,
  z4 := Tryz.sizeOf4,
  v4 := Tryz.zeroValue4,
  t5 := Tryz.underlying5,
  a5 := Tryz.isAgg5,
  z5 := Tryz.sizeOf5,
  v5 := Tryz.zeroValue5,
  t9 := Tryz.underlying9,
  a9 := Tryz.isAgg9,
  z9 := Tryz.sizeOf9,
  v9 := Tryz.zeroValue9,
  t31 := Tryz.underlying73,
  a31 := Tryz.isAgg73,
  z31 := Tryz.sizeOf73,
  v31 := Tryz.zeroValue73,
  t46 := Tryz.underlying191,
  a46 := Tryz.isAgg191,
  z46 := Tryz.sizeOf191,
  v46 := Tryz.zeroValue191,
  t51 := Tryz.underlying219,
  a51 := Tryz.isAgg219,
  z51 := Tryz.sizeOf219,
  v51 := Tryz.zeroValue219,
  t53 := Tryz.underlying221,
  a53 := Tryz.isAgg221,
  z53 := Tryz.sizeOf221,
  v53 := Tryz.zeroValue221,
  t131 := Tryz.underlying150,
  a131 := Tryz.isAgg150,
  z131 := Tryz.sizeOf150,
  v131 := Tryz.zeroValue150,
  t182 := Tryz.underlying212,
  a182 := Tryz.isAgg212,
  z182 := Tryz.sizeOf212,
  v182 := Tryz.zeroValue212,
  t183 := Tryz.underlying213,
  a183 := Tryz.isAgg213,
  z183 := Tryz.sizeOf213,
  v183 := Tryz.zeroValue213,
  t218 := Tryz.underlying253,
  a218 := Tryz.isAgg253,
  z218 := Tryz.sizeOf253,
  v218 := Tryz.zeroValue253,
  t222 := Tryz.underlying257,
  a222 := Tryz.isAgg257,
  z222 := Tryz.sizeOf257,
  v222 := Tryz.zeroValue257,
  t228 := Tryz.underlying268,
  a228 := Tryz.isAgg268,
  z228 := Tryz.sizeOf268,
  v228 := Tryz.zeroValue268,
  t229 := Tryz.underlying269,
  a229 := Tryz.isAgg269,
  z229 := Tryz.sizeOf269,
  v229 := Tryz.zeroValue269 }
theorem Tryz_cp82 {l r : List ByteArray} {B : Nat} {A : Nat → Prop} {w : World} {L : List Ob} {i : Nat} {v : Value} (hH : Hp B A w L) (hi : L[i]? = some (obS (α := ByteArray) 9 v l)) (hB : B ≤ w.heap.size) (hA : ∀ b, w.heap.size ≤ b → A b) (hr : sortStrsL l = some r) : Ret Tryz.prog 82 #[v] w fun u w' => u = .tuple #[] ∧ Hp B A w' (L.set i (obS (α := ByteArray) 9 v r)) ∧ Tr Dw B A w A w' :=
  Hp.sortStrs (Dw := Dw) (fun _ => rfl) (fun a c w => Go.Proofs.Any.slices_Sort_string_none Tryz_cp82_lay a c w) (fun blk off cap zs w h1 h2 h3 => Go.Proofs.Any.slices_Sort_string Tryz_cp82_lay blk off cap zs w h1 h2 h3) hH hi hB hA hr

/-- a posting of the call's own -/
def idxPoL (b : Nat) (x : know_Posting) (u : Value × Value) : List Ob := [obC b [.int .i64 x.id_, u.1, u.2] 86, obS (α := Int) 3 u.1 x.title, obS (α := Int) 3 u.2 x.body]
def idxPo (b : Nat) (x : know_Posting) : Ob := obE (idxPoL b x)
theorem idxPo_new {B : Nat} {A : Nat → Prop} {w : World} {L : List Ob} {b : Nat} {id : Int} (h : Hp B A w (obC b [.int .i64 id, .slice none 0 0, .slice none 0 0] 86 :: L)) : Hp B A w (idxPo b ⟨id, [], []⟩ :: L) := by
  have h1 := (h.addNil (α := Int) (e := 3)).addNil (α := Int) (e := 3)
  refine Hp.pack (F := idxPoL b ⟨id, [], []⟩) (.slice none 0 0, .slice none 0 0) (h1.perm ?_)
  exact (List.Perm.cons _ (List.Perm.swap _ _ _)).trans (List.Perm.swap _ _ _)
theorem idxTo_c (title : Bool) (w : World) (b : Nat) : Ret Tryz.prog (if title = true then 105 else 106) #[.pointer (some ⟨b, 0, none⟩)] w fun v w' => v = .pointer (some ⟨b, if title = true then 1 else 2, none⟩) ∧ w = w' := by
  cases title
  · refine enter Tryz.func106 rfl Tryz.ntmps106 rfl ?_
    refine C_seq ?_
    refine C_region ?_
    refine V_y (Y_assign rfl) rfl rfl rfl ?_
    refine V_to (fun _ _ => rfl) ?_
    refine C_seq ?_
    refine C_region ?_
    refine V_y (Y_move rfl) rfl rfl rfl ?_
    refine V_y (Y_nilCheck rfl) rfl rfl rfl ?_
    refine V_y (Y_fieldAddrC (off2 := 2) Tryz.underlying86 rfl Tryz.sizeOf23 (by decide) rfl rfl) rfl rfl rfl ?_
    refine V_y (Y_assign rfl) rfl rfl rfl ?_
    refine V_to (fun _ _ => rfl) ?_
    refine C_ret ?_
    try simp only [↓inBlock_ret, ↓then_ret]
    exact retQ rfl (Res.one Tryz.results106 rfl) ⟨rfl, rfl⟩
  · refine enter Tryz.func105 rfl Tryz.ntmps105 rfl ?_
    refine C_seq ?_
    refine C_region ?_
    refine V_y (Y_assign rfl) rfl rfl rfl ?_
    refine V_to (fun _ _ => rfl) ?_
    refine C_seq ?_
    refine C_region ?_
    refine V_y (Y_move rfl) rfl rfl rfl ?_
    refine V_y (Y_nilCheck rfl) rfl rfl rfl ?_
    refine V_y (Y_fieldAddrC (off2 := 1) Tryz.underlying86 rfl Tryz.sizeOf23 (by decide) rfl rfl) rfl rfl rfl ?_
    refine V_y (Y_assign rfl) rfl rfl rfl ?_
    refine V_to (fun _ _ => rfl) ?_
    refine C_ret ?_
    try simp only [↓inBlock_ret, ↓then_ret]
    exact retQ rfl (Res.one Tryz.results105 rfl) ⟨rfl, rfl⟩
theorem idxToCall (title : Bool) : ∀ (args : Array Value) (w : World), (callFunc (if title = true then 105 else 106) args).run Tryz.prog w = .ok (.enter (if title = true then 105 else 106) args) w := by
  cases title
  · exact Tryz.call106
  · exact Tryz.call105
theorem know_postings_note_c (w : World) {A : Nat → Prop} {B : Nat} (hB : B ≤ w.heap.size) (hA : ∀ b, w.heap.size ≤ b → A b) (e : know_Entry) (b_v : Nat) (h_v : El A w b_v 0 e) (text : ByteArray) (title : Bool) (b_f b_s mb : Nat) (v_s : Value) (found : List (ByteArray × know_Posting)) (stems : List ByteArray) {L : List Ob} (hH : Hp B A w (obC b_f [.map (some mb)] 200 :: obMO Ptr idxPo mb found :: obC b_s [v_s] 73 :: obS (α := ByteArray) 9 v_s stems :: L)) {r : Int × List (ByteArray × know_Posting) × List ByteArray} (hm : know_postings_note e.id_ text title (found, stems) = some r) :
    Ret Tryz.prog 103 #[.string text, .func (.func (if title = true then 105 else 106)) #[] #[], .pointer (some ⟨b_f, 0, none⟩), .pointer (some ⟨b_v, 0, none⟩), .pointer (some ⟨b_s, 0, none⟩)] w fun u w' => ∃ v', ∃ A1 : Nat → Prop, u = .int .i64 r.1 ∧ Hp B A1 w' (obC b_f [.map (some mb)] 200 :: obMO Ptr idxPo mb r.2.1 :: obC b_s [v'] 73 :: obS (α := ByteArray) 9 v' r.2.2 :: L) ∧ Tr Dw B A w A1 w' := by
  unfold know_postings_note at hm
  refine enter Tryz.func103 rfl Tryz.ntmps103 rfl ?_
  have hK : Tr Dw B A w A w := Tr.refl (Dw := Dw) hA
  refine C_seq ?_
  refine C_region ?_
  refine V_y (Y_assign rfl) rfl rfl rfl ?_
  refine V_to (fun _ _ => rfl) ?_
  refine C_seq ?_
  refine C_region ?_
  refine V_y (Y_move rfl) rfl rfl rfl ?_
  obtain ⟨l, hl, hm⟩ := Option.bind_eq_some_iff.1 hm
  refine V_call Tryz.call65 rfl rfl rfl rfl (know_Words_c (Dw := Dw) w hA text hl) ?_
  rintro v1 w1 ⟨_, rfl, h1, hk1⟩
  obtain ⟨A1, ht1, hH1⟩ := Hp.addOwnd (Dw := Dw) hH hB hA hk1 h1
  replace h_v := El.tr (Dw := Dw) h_v ht1
  replace hK := Tr.trans (Dw := Dw) hK ht1
  replace hB := Nat.le_trans hB ht1.ex.size
  replace hA := ht1.new
  obtain ⟨A2, ht2, h_l, hH2⟩ := Hp.freeze (Dw := Dw) hH1 (i := 0) rfl hA
  replace h_v := El.tr (Dw := Dw) h_v ht2
  replace hK := Tr.trans (Dw := Dw) hK ht2
  replace hA := ht2.new
  replace hH : Hp B A2 w1 (obC b_f [.map (some mb)] 200 :: obMO Ptr idxPo mb found :: obC b_s [v_s] 73 :: obS (α := ByteArray) 9 v_s stems :: L) := hH2
  refine V_y (Y_assign rfl) rfl rfl rfl ?_
  refine V_to (fun _ _ => rfl) ?_
  refine C_seq ?_
  refine C_seq ?_
  refine C_region ?_
  refine V_y (Y_move rfl) rfl rfl rfl ?_
  refine V_y (Y_lenSl h_l rfl Tryz.underlying73 rfl) rfl rfl rfl ?_
  refine V_y (Y_move rfl) rfl rfl rfl ?_
  refine V_to (fun _ _ => rfl) ?_
  have hnl := Sl.le h_l
  obtain ⟨o, ho, hm⟩ := Option.bind_eq_some_iff.1 hm
  refine C_cutG (ι := ((List (ByteArray × know_Posting) × List ByteArray) × Value × (Nat → Prop))) (fun ⟨s, v, A'⟩ => [(8, v1)]) (fun ⟨s, v, A'⟩ => fun w' => o = .fin s ∧ Hp B A' w' (obC b_f [.map (some mb)] 200 :: obMO Ptr idxPo mb s.1 :: obC b_s [v] 73 :: obS (α := ByteArray) 9 v s.2 :: L) ∧ Tr Dw B A2 w1 A' w') ?_ ?_
  · refine C_block ?_
    refine C_range ho (fun k s a w' => ∃ i : (Value × (Nat → Prop)), Has ⟨54, [], none⟩ a ([(1, .func (.func (if title = true then 105 else 106)) #[] #[]), (2, .pointer (some ⟨b_f, 0, none⟩)), (3, .pointer (some ⟨b_v, 0, none⟩)), (4, .pointer (some ⟨b_s, 0, none⟩)), (8, v1), (15, v1), (16, .int .i64 (l.length : Int)), (17, .int .i64 (k : Int))]) ∧ Hp B i.2 w' (obC b_f [.map (some mb)] 200 :: obMO Ptr idxPo mb s.1 :: obC b_s [i.1] 73 :: obS (α := ByteArray) 9 i.1 s.2 :: L) ∧ Tr Dw B A2 w1 i.2 w') (fun a ha => ⟨(v_s, A2), ha.sub ⟨rfl, rfl, rfl, rfl, rfl, rfl, rfl, rfl, trivial⟩, hH, Tr.refl (Dw := Dw) hA⟩) ?_
    rintro K k s a w3 ⟨⟨v3, A3⟩, ha3, hH3, hr⟩ hle K3 hfin
    obtain ⟨fnd, stm⟩ := s
    refine C_of ?_ ha3
    replace h_v := El.tr (Dw := Dw) h_v hr
    replace h_l := Sl.tr (Dw := Dw) h_l hr
    replace hB := Nat.le_trans hB hr.ex.size
    replace hA := hr.new
    replace hH : Hp B A3 w3 (obC b_f [.map (some mb)] 200 :: obMO Ptr idxPo mb fnd :: obC b_s [v3] 73 :: obS (α := ByteArray) 9 v3 stm :: L) := hH3
    refine C_seq (C_region (V_y (Y_lss rfl rfl) rfl rfl rfl (V_to (fun _ _ => rfl) ?_)))
    refine C_seq ?_
    refine C_cond rfl (fun hc => ?_) (fun hc => ?_)
    · have hlt := lt_of_dec hc
      obtain ⟨x, hx, hnx⟩ := K3 hlt
      unfold idxNote at hx
      refine C_skip_to (fun _ _ => rfl) ?_
      refine C_seq ?_
      refine C_block ?_
      refine C_seq ?_
      refine C_region ?_
      refine V_y (Y_move rfl) rfl rfl rfl ?_
      obtain ⟨wd, hwd, hx⟩ := Option.bind_eq_some_iff.1 hx
      refine V_indexAddr h_l hwd Tryz.underlying73 Tryz.sizeOf9 rfl rfl rfl ?_
      intro b4 o4 h4
      refine V_y (Y_load (El.str h4) Tryz.isAgg9 rfl) rfl rfl rfl ?_
      refine V_y (Y_assign rfl) rfl rfl rfl ?_
      refine V_y (Y_assign rfl) rfl rfl rfl ?_
      refine V_to (fun _ _ => rfl) ?_
      refine C_seq ?_
      refine C_region ?_
      refine V_y (Y_move rfl) rfl rfl rfl ?_
      obtain ⟨t, hst, hx⟩ := Option.bind_eq_some_iff.1 hx
      refine V_call Tryz.call104 rfl rfl rfl rfl (know_Stem_c w3 wd hst) ?_
      rintro _ _ ⟨rfl, rfl⟩
      refine V_y (Y_assign rfl) rfl rfl rfl ?_
      refine V_to (fun _ _ => rfl) ?_
      obtain ⟨q, hq, hx⟩ := Option.bind_eq_some_iff.1 hx
      obtain ⟨m, hpm, hx⟩ := Option.bind_eq_some_iff.1 hx
      refine C_seq ?_
      refine C_seq ?_
      refine C_region ?_
      refine V_y (Y_load (Hp.cell (j := 0) hH (i := 0) rfl rfl) Tryz.isAgg200 rfl) rfl rfl rfl ?_
      refine V_y (Y_move rfl) rfl rfl rfl ?_
      refine V_lookupMO1 hH (i := 1) rfl Tryz.underlying200 Tryz.underlying9 Tryz.zeroValue180 rfl rfl rfl rfl ?_
      intro oo hoo
      refine V_y (Y_eqlPN Tryz.underlying180 rfl rfl) rfl rfl rfl ?_
      refine V_to (fun _ _ => rfl) ?_
      refine C_cutG (ι := (Value × (Nat → Prop))) (fun ⟨v, A'⟩ => [(1, .func (.func (if title = true then 105 else 106)) #[] #[]), (2, .pointer (some ⟨b_f, 0, none⟩)), (3, .pointer (some ⟨b_v, 0, none⟩)), (4, .pointer (some ⟨b_s, 0, none⟩)), (8, v1), (9, .int .i64 (k : Int)), (11, .string t), (15, v1), (16, .int .i64 (l.length : Int)), (17, .int .i64 (k : Int))]) (fun ⟨v, A'⟩ => fun w' => Hp B A' w' (obC b_f [.map (some mb)] 200 :: obMO Ptr idxPo mb (mapHave fnd t ⟨e.id_, [], []⟩) :: obC b_s [v] 73 :: obS (α := ByteArray) 9 v q :: L) ∧ Tr Dw B A3 w3 A' w') ?_ ?_
      · refine C_cond rfl (fun hn => ?_) (fun hn => ?_)
        · have hnone : mapGet fnd t = none := by
            cases hg : mapGet fnd t with
            | none => rfl
            | some p => rw [hg] at hoo; rw [hoo] at hn; cases hn
          have hhave : mapHave fnd t (⟨e.id_, [], []⟩ : know_Posting) = fnd ++ [(t, ⟨e.id_, [], []⟩)] := mapHave_none hnone
          rw [hnone] at hq
          rw [if_neg (by simp)] at hq
          refine C_seq ?_
          refine C_region ?_
          refine V_y (Y_load (Hp.cell (j := 0) hH (i := 0) rfl rfl) Tryz.isAgg200 rfl) rfl rfl rfl ?_
          refine V_y (Y_move rfl) rfl rfl rfl ?_
          have h_id := El_know_Entry_0 h_v
          refine V_y (Y_fieldAddr Tryz.underlying33 rfl Tryz.sizeOf3 (by decide) rfl) rfl rfl rfl ?_
          refine V_y (Y_load (El.int h_id) Tryz.isAgg3 rfl) rfl rfl rfl ?_
          refine V_y (Y_build Tryz.underlying86 Tryz.zeroValue86 (Tryz_places86 _ Tryz.underlying86) rfl (by with_unfolding_all rfl)) rfl rfl rfl ?_
          refine V_boxH (Dw := Dw) (B := B) hH rfl hB hA rfl ?_
          intro b5 w5 A5 hH5 ht5
          replace h_v := El.tr (Dw := Dw) h_v ht5
          replace hB := Nat.le_trans hB ht5.ex.size
          replace hA := ht5.new
          replace hH : Hp B A5 w5 (idxPo (Ref.b (⟨b5⟩ : Ptr)) ⟨e.id_, [], []⟩ :: obC b_f [.map (some mb)] 200 :: obMO Ptr idxPo mb fnd :: obC b_s [v3] 73 :: obS (α := ByteArray) 9 v3 stm :: L) := idxPo_new hH5
          refine V_mapNewMO (Dw := Dw) (r := (⟨b5⟩ : Ptr)) (f := idxPo) (c := ⟨e.id_, [], []⟩) hH (i := 1) rfl hnone Tryz.underlying200 Tryz.underlying9 rfl rfl rfl hB hA ?_
          intro w6 hH6 ht6
          replace h_v := El.tr (Dw := Dw) h_v ht6
          replace hB := Nat.le_trans hB ht6.ex.size
          replace hA := ht6.new
          replace hH : Hp B A5 w6 (obC b_f [.map (some mb)] 200 :: obMO Ptr idxPo mb (fnd ++ [(t, ⟨e.id_, [], []⟩)]) :: obC b_s [v3] 73 :: obS (α := ByteArray) 9 v3 stm :: L) := hH6
          refine V_to (fun _ _ => rfl) ?_
          refine C_region ?_
          refine V_y (Y_load (Hp.cell (j := 0) hH (i := 2) rfl rfl) Tryz.isAgg73 rfl) rfl rfl rfl ?_
          refine V_y (Y_move rfl) rfl rfl rfl ?_
          refine V_buildSlice (Dw := Dw) (l := ([t] : List ByteArray)) (len := 1) Tryz.underlying73 Tryz.sizeOf9 Tryz.zeroValue9 rfl (by with_unfolding_all rfl) (show (1 * 1 : Nat) ≠ 0 by decide) (show (1 * 1 : Nat) ≤ 2 ^ 24 by decide) hA ⟨[.string t], _, rfl, rfl, rfl⟩ rfl rfl ?_
          intro v7 w7 hk7 h7
          have ht7 := Kp.tr (Dw := Dw) hk7 hA hB
          replace hH := Hp.kp (Dw := Dw) hH hk7
          replace hB := Nat.le_trans hB ht7.ex.size
          replace hA := ht7.new
          refine V_appendH (Dw := Dw) (e := 9) (v := v3) (l := stm) (ti := Tryz.t9) (bytes := 16) (lim := 8796093022208) hH (i := 3) rfl h7 hq Tryz.underlying73 Tryz_info9 rfl rfl rfl rfl (by decide) (by decide) (by decide) hB hA rfl rfl rfl ?_
          intro v8 w8 A8 hH8 ht8
          replace hB := Nat.le_trans hB ht8.ex.size
          replace hA := ht8.new
          replace hH : Hp B A8 w8 (obC b_f [.map (some mb)] 200 :: obMO Ptr idxPo mb (fnd ++ [(t, ⟨e.id_, [], []⟩)]) :: obC b_s [v3] 73 :: obS (α := ByteArray) 9 v8 q :: L) := hH8
          have one8 : v8.oneCell' = true := by obtain ⟨_, _, e, _⟩ := Hp.form hH (i := 3) rfl; rw [e]; rfl
          refine V_storeC (Dw := Dw) (off := 0) (ds := [v8]) hH (i := 2) rfl Tryz.sizeOf73 (cells_of_one one8) (Nat.le_of_ble_eq_true rfl) (cells_all_one one8) (by rw [Value.cells_one one8]; rfl) hB hA rfl rfl ?_
          intro w9 hH9 ht9
          replace hH : Hp B A8 w9 (obC b_f [.map (some mb)] 200 :: obMO Ptr idxPo mb (fnd ++ [(t, ⟨e.id_, [], []⟩)]) :: obC b_s [v8] 73 :: obS (α := ByteArray) 9 v8 q :: L) := hH9
          refine V_end (fun a ha => ?_)
          refine ⟨(v8, A8), ha.sub ⟨rfl, rfl, rfl, rfl, rfl, rfl, rfl, rfl, rfl, rfl, trivial⟩, ?_, Tr.trans (Dw := Dw) ht5 (Tr.trans (Dw := Dw) ht6 (Tr.trans (Dw := Dw) ht7 (Tr.trans (Dw := Dw) ht8 ht9)))⟩
          rw [hhave]
          exact hH
        · have hsome : (mapGet fnd t).isSome = true := by
            rw [← hoo]
            simpa using hn
          have hhave : mapHave fnd t (⟨e.id_, [], []⟩ : know_Posting) = fnd := by unfold mapHave; exact if_pos hsome
          rw [if_pos hsome] at hq
          obtain rfl := Option.some.inj hq
          refine C_skip (fun a ha => ?_)
          refine ⟨(v3, A3), ha.sub ⟨rfl, rfl, rfl, rfl, rfl, rfl, rfl, rfl, rfl, rfl, trivial⟩, ?_, Tr.refl (Dw := Dw) hA⟩
          rw [hhave]
          exact hH
      rintro ⟨v5, A5⟩ w5 ⟨hH5, ht5⟩ a ha5
      replace h_v := El.tr (Dw := Dw) h_v ht5
      replace hB := Nat.le_trans hB ht5.ex.size
      replace hA := ht5.new
      replace hr := Tr.trans (Dw := Dw) hr ht5
      replace hH : Hp B A5 w5 (obC b_f [.map (some mb)] 200 :: obMO Ptr idxPo mb (mapHave fnd t ⟨e.id_, [], []⟩) :: obC b_s [v5] 73 :: obS (α := ByteArray) 9 v5 q :: L) := hH5
      have hnd := Hp.moNodup hH (i := 1) rfl
      refine C_at (n := ⟨54, [], none⟩) (fun _ _ => rfl) ?_ ha5
      refine C_seq ?_
      refine C_region ?_
      refine V_y (Y_move rfl) rfl rfl rfl ?_
      refine V_y (Y_load (Hp.cell (j := 0) hH (i := 0) rfl rfl) Tryz.isAgg200 rfl) rfl rfl rfl ?_
      refine V_y (Y_move rfl) rfl rfl rfl ?_
      refine V_lookupMO hH (i := 1) rfl (mapHave_get fnd t ⟨e.id_, [], []⟩) Tryz.underlying200 Tryz.underlying9 Tryz.zeroValue180 rfl rfl rfl rfl ?_
      rintro j ⟨bp⟩ hj hHo
      refine V_call (idxToCall title) rfl rfl rfl rfl (idxTo_c title w5 bp) ?_
      rintro _ _ ⟨rfl, rfl⟩
      refine V_y (Y_assign rfl) rfl rfl rfl ?_
      refine V_to (fun _ _ => rfl) ?_
      refine C_region ?_
      refine V_y (Y_move rfl) rfl rfl rfl ?_
      refine V_y (Y_move rfl) rfl rfl rfl ?_
      refine V_y (Y_nilCheck rfl) rfl rfl rfl ?_
      unfold idxPut at hpm
      generalize (mapGet fnd t).getD ⟨e.id_, [], []⟩ = p at hpm hj hHo
      obtain ⟨⟨vt, vb⟩, hHp⟩ := Hp.open hHo
      cases title
      · rw [if_neg (by decide)] at hpm
        obtain ⟨l1, hl1, hpm⟩ := Option.bind_eq_some_iff.1 hpm
        obtain rfl := Option.some.inj hpm
        replace hH : Hp B A5 w5 (obC bp [.int .i64 p.id_, vt, vb] 86 :: obS (α := Int) 3 vt p.title :: obS (α := Int) 3 vb p.body :: obC b_f [.map (some mb)] 200 :: obMX Ptr idxPo mb (mapHave fnd t ⟨e.id_, [], []⟩) j ⟨bp⟩ :: obC b_s [v5] 73 :: obS (α := ByteArray) 9 v5 q :: L) := hHp
        refine V_y (Y_load (Hp.cell (j := 2) hH (i := 0) rfl rfl) Tryz.isAgg23 rfl) rfl rfl rfl ?_
        refine V_y (Y_move rfl) rfl rfl rfl ?_
        refine V_buildSlice (Dw := Dw) (cells := #[.int .i64 (k : Int)]) (l := ([(k : Int)] : List Int)) (len := 1) Tryz.underlying23 Tryz.sizeOf3 Tryz.zeroValue3 rfl (by generalize ((k : Int)) = z; kernel_rfl) (show (1 * 1 : Nat) ≠ 0 by decide) (show (1 * 1 : Nat) ≤ 2 ^ 24 by decide) hA ⟨[.int .i64 (k : Int)], _, rfl, rfl, rfl⟩ rfl rfl ?_
        intro v7 w7 hk7 h7
        have ht7 := Kp.tr (Dw := Dw) hk7 hA hB
        replace hH := Hp.kp (Dw := Dw) hH hk7
        replace hB := Nat.le_trans hB ht7.ex.size
        replace hA := ht7.new
        refine V_appendH (Dw := Dw) (e := 3) (v := vb) (l := p.body) (ti := Tryz.t3) (bytes := 8) (lim := 17592186044416) hH (i := 2) rfl h7 hl1 Tryz.underlying23 Tryz_info3 rfl rfl rfl rfl (by decide) (by decide) (by decide) hB hA rfl rfl rfl ?_
        intro v8 w8 A8 hH8 ht8
        replace hB := Nat.le_trans hB ht8.ex.size
        replace hA := ht8.new
        replace hH : Hp B A8 w8 (obC bp [.int .i64 p.id_, vt, vb] 86 :: obS (α := Int) 3 vt p.title :: obS (α := Int) 3 v8 l1 :: obC b_f [.map (some mb)] 200 :: obMX Ptr idxPo mb (mapHave fnd t ⟨e.id_, [], []⟩) j ⟨bp⟩ :: obC b_s [v5] 73 :: obS (α := ByteArray) 9 v5 q :: L) := hH8
        have one8 : v8.oneCell' = true := by obtain ⟨_, _, e, _⟩ := Hp.form hH (i := 2) rfl; rw [e]; rfl
        refine V_y (Y_nilCheck rfl) rfl rfl rfl ?_
        refine V_storeC (Dw := Dw) (off := 2) (ds := [.int .i64 p.id_, vt, v8]) hH (i := 0) rfl Tryz.sizeOf23 (cells_of_one one8) (Nat.le_of_ble_eq_true rfl) (cells_all_one one8) (by rw [Value.cells_one one8]; rfl) hB hA rfl rfl ?_
        intro w9 hH9 ht9
        replace hB := Nat.le_trans hB ht9.ex.size
        replace hA := ht9.new
        have hHq : Hp B A8 w9 (idxPo (Ref.b (⟨bp⟩ : Ptr)) ⟨p.id_, p.title, l1⟩ :: obC b_f [.map (some mb)] 200 :: obMX Ptr idxPo mb (mapHave fnd t ⟨e.id_, [], []⟩) j ⟨bp⟩ :: obC b_s [v5] 73 :: obS (α := ByteArray) 9 v5 q :: L) := Hp.pack (F := idxPoL bp ⟨p.id_, p.title, l1⟩) (vt, v8) hH9
        have hHr := Hp.moBack (i := 1) hHq rfl hj
        rw [mapHave_put hnd hj] at hHr
        replace hr := Tr.trans (Dw := Dw) hr (Tr.trans (Dw := Dw) ht7 (Tr.trans (Dw := Dw) ht8 ht9))
        refine V_to (fun _ _ => rfl) ?_
        refine C_region ?_
        refine V_y (Y_addI rfl rfl) rfl rfl rfl ?_
        refine V_y (Y_move rfl) rfl rfl rfl ?_
        obtain rfl := Option.some.inj hx
        refine V_end (fun a ha => ?_)
        exact ⟨(_, q), hlt, hnx, ⟨(v5, A8), ha.sub ⟨rfl, rfl, rfl, rfl, rfl, rfl, rfl, (congrArg (fun z => some (Value.int .i64 z)) (w64_succ hlt hnl)), trivial⟩, hHr, hr⟩⟩
      · rw [if_pos rfl] at hpm
        obtain ⟨l1, hl1, hpm⟩ := Option.bind_eq_some_iff.1 hpm
        obtain rfl := Option.some.inj hpm
        replace hH : Hp B A5 w5 (obC bp [.int .i64 p.id_, vt, vb] 86 :: obS (α := Int) 3 vt p.title :: obS (α := Int) 3 vb p.body :: obC b_f [.map (some mb)] 200 :: obMX Ptr idxPo mb (mapHave fnd t ⟨e.id_, [], []⟩) j ⟨bp⟩ :: obC b_s [v5] 73 :: obS (α := ByteArray) 9 v5 q :: L) := hHp
        refine V_y (Y_load (Hp.cell (j := 1) hH (i := 0) rfl rfl) Tryz.isAgg23 rfl) rfl rfl rfl ?_
        refine V_y (Y_move rfl) rfl rfl rfl ?_
        refine V_buildSlice (Dw := Dw) (cells := #[.int .i64 (k : Int)]) (l := ([(k : Int)] : List Int)) (len := 1) Tryz.underlying23 Tryz.sizeOf3 Tryz.zeroValue3 rfl (by generalize ((k : Int)) = z; kernel_rfl) (show (1 * 1 : Nat) ≠ 0 by decide) (show (1 * 1 : Nat) ≤ 2 ^ 24 by decide) hA ⟨[.int .i64 (k : Int)], _, rfl, rfl, rfl⟩ rfl rfl ?_
        intro v7 w7 hk7 h7
        have ht7 := Kp.tr (Dw := Dw) hk7 hA hB
        replace hH := Hp.kp (Dw := Dw) hH hk7
        replace hB := Nat.le_trans hB ht7.ex.size
        replace hA := ht7.new
        refine V_appendH (Dw := Dw) (e := 3) (v := vt) (l := p.title) (ti := Tryz.t3) (bytes := 8) (lim := 17592186044416) hH (i := 1) rfl h7 hl1 Tryz.underlying23 Tryz_info3 rfl rfl rfl rfl (by decide) (by decide) (by decide) hB hA rfl rfl rfl ?_
        intro v8 w8 A8 hH8 ht8
        replace hB := Nat.le_trans hB ht8.ex.size
        replace hA := ht8.new
        replace hH : Hp B A8 w8 (obC bp [.int .i64 p.id_, vt, vb] 86 :: obS (α := Int) 3 v8 l1 :: obS (α := Int) 3 vb p.body :: obC b_f [.map (some mb)] 200 :: obMX Ptr idxPo mb (mapHave fnd t ⟨e.id_, [], []⟩) j ⟨bp⟩ :: obC b_s [v5] 73 :: obS (α := ByteArray) 9 v5 q :: L) := hH8
        have one8 : v8.oneCell' = true := by obtain ⟨_, _, e, _⟩ := Hp.form hH (i := 1) rfl; rw [e]; rfl
        refine V_y (Y_nilCheck rfl) rfl rfl rfl ?_
        refine V_storeC (Dw := Dw) (off := 1) (ds := [.int .i64 p.id_, v8, vb]) hH (i := 0) rfl Tryz.sizeOf23 (cells_of_one one8) (Nat.le_of_ble_eq_true rfl) (cells_all_one one8) (by rw [Value.cells_one one8]; rfl) hB hA rfl rfl ?_
        intro w9 hH9 ht9
        replace hB := Nat.le_trans hB ht9.ex.size
        replace hA := ht9.new
        have hHq : Hp B A8 w9 (idxPo (Ref.b (⟨bp⟩ : Ptr)) ⟨p.id_, l1, p.body⟩ :: obC b_f [.map (some mb)] 200 :: obMX Ptr idxPo mb (mapHave fnd t ⟨e.id_, [], []⟩) j ⟨bp⟩ :: obC b_s [v5] 73 :: obS (α := ByteArray) 9 v5 q :: L) := Hp.pack (F := idxPoL bp ⟨p.id_, l1, p.body⟩) (v8, vb) hH9
        have hHr := Hp.moBack (i := 1) hHq rfl hj
        rw [mapHave_put hnd hj] at hHr
        replace hr := Tr.trans (Dw := Dw) hr (Tr.trans (Dw := Dw) ht7 (Tr.trans (Dw := Dw) ht8 ht9))
        refine V_to (fun _ _ => rfl) ?_
        refine C_region ?_
        refine V_y (Y_addI rfl rfl) rfl rfl rfl ?_
        refine V_y (Y_move rfl) rfl rfl rfl ?_
        obtain rfl := Option.some.inj hx
        refine V_end (fun a ha => ?_)
        exact ⟨(_, q), hlt, hnx, ⟨(v5, A8), ha.sub ⟨rfl, rfl, rfl, rfl, rfl, rfl, rfl, (congrArg (fun z => some (Value.int .i64 z)) (w64_succ hlt hnl)), trivial⟩, hHr, hr⟩⟩
    · refine C_exit (fun a ha => ?_)
      exact ⟨((fnd, stm), v3, A3), ha.sub ⟨rfl, trivial⟩, ⟨(hfin (eq_of_dec hle hc)).symm, hH, hr⟩⟩
  rintro ⟨s, v3, A3⟩ w3 ⟨rfl, hH3, hr⟩ a ha3
  rw [Lp.andThen_fin] at hm
  obtain rfl := Option.some.inj hm
  replace h_l := Sl.tr (Dw := Dw) h_l hr
  replace hK := Tr.trans (Dw := Dw) hK hr
  refine C_at (n := ⟨54, [], none⟩) (fun _ _ => rfl) ?_ ha3
  refine C_seq ?_
  refine C_region ?_
  refine V_y (Y_move rfl) rfl rfl rfl ?_
  refine V_y (Y_lenSl h_l rfl Tryz.underlying73 rfl) rfl rfl rfl ?_
  refine V_y (Y_assign rfl) rfl rfl rfl ?_
  refine V_to (fun _ _ => rfl) ?_
  refine C_ret ?_
  try simp only [↓inBlock_ret, ↓then_ret]
  exact retQ rfl (Res.one Tryz.results103 rfl) ⟨v3, A3, rfl, hH3, hK⟩
/-- a posting that is from now on only read -/
theorem idxPo_el {A A1 : Nat → Prop} {w : World} {b : Nat} {x : know_Posting} {fb : List Nat} (h : (idxPo b x).P fb A w) (hf : ∀ k ∈ fb, A1 k ∧ k < w.heap.size) : El (α := know_Posting) A1 w b 0 x := by
  obtain ⟨⟨vt, vb⟩, hs⟩ := h
  obtain ⟨f1, ⟨rfl, h1⟩, s1, _⟩ := Sp.at hs (i := 0) rfl
  obtain ⟨f2, h2, s2, _⟩ := Sp.at hs (i := 1) rfl
  obtain ⟨f3, h3, s3, _⟩ := Sp.at hs (i := 2) rfl
  have hb := hf b (s1 b (by simp))
  have h_t : Sl A1 w vt x.title := OwP.slI h2 fun k hk => (hf k (s2 k hk)).1
  have h_b : Sl A1 w vb x.body := OwP.slI h3 fun k hk => (hf k (s3 k hk)).1
  refine ⟨hb.1, hb.2, [.int .i64 x.id_, vt, vb], ⟨[.int .i64 x.id_], _, rfl, rfl, ⟨[vt], _, rfl, ⟨_, rfl, h_t⟩, ⟨_, rfl, h_b⟩⟩⟩, fun j u hj => ?_⟩
  simp only [World.cell?, h1, Nat.zero_add]
  simpa using hj
theorem know_postings_c (w : World) {A : Nat → Prop} {B : Nat} (hB : B ≤ w.heap.size) (hA : ∀ b, w.heap.size ≤ b → A b) (v : know_Entry) {L : List Ob} (hH : Hp B A w (L)) {r : List know_Term × Int} (hm : know_postings v = some r) : Ret Tryz.prog 71 #[.agg #[.int .i64 v.id_, .string v.title, .string v.body]] w fun u w' => ∃ s0, ∃ A1 : Nat → Prop, u = .tuple #[s0, .int .i64 r.2] ∧ Hp B A1 w' (obS (α := know_Term) 83 s0 r.1 :: L) ∧ Tr Dw B A w A1 w' := by
  unfold know_postings at hm
  refine enter Tryz.func71 rfl Tryz.ntmps71 rfl ?_
  have hK : Tr Dw B A w A w := Tr.refl (Dw := Dw) hA
  refine C_seq ?_
  refine C_region ?_
  refine V_box rfl rfl ?_
  intro b1 w1 n1
  have h_v : El (α := know_Entry) A w1 b1 0 v := n1.el hA ⟨[.int .i64 v.id_], _, rfl, rfl, ⟨[.string v.title], _, rfl, rfl, rfl⟩⟩
  have ht1 := Kp.tr (Dw := Dw) n1.kp hA hB
  replace hH := Hp.kp (Dw := Dw) hH n1.kp
  replace hK := Tr.trans (Dw := Dw) hK ht1
  replace hB := Nat.le_trans hB ht1.ex.size
  replace hA := ht1.new
  refine V_y (Y_assign rfl) rfl rfl rfl ?_
  refine V_y (Y_assign rfl) rfl rfl rfl ?_
  refine V_to (fun _ _ => rfl) ?_
  refine C_seq ?_
  refine C_region ?_
  refine V_makeMapB (Dw := Dw) ByteArray (Option Ptr) hH hB hA rfl ?_
  intro mb w2 A2 hH2 ht2
  replace h_v := El.tr (Dw := Dw) h_v ht2
  replace hK := Tr.trans (Dw := Dw) hK ht2
  replace hB := Nat.le_trans hB ht2.ex.size
  replace hA := ht2.new
  replace hH : Hp B A2 w2 (obMO (κ := ByteArray) Ptr idxPo mb [] :: L) := Hp.moNew Ptr idxPo hH2 (i := 0) rfl
  refine V_allocH (Dw := Dw) (B := B) hH Tryz.zeroValue200 hB hA rfl ?_
  intro b_f w3 A3 hH3 ht3
  replace h_v := El.tr (Dw := Dw) h_v ht3
  replace hK := Tr.trans (Dw := Dw) hK ht3
  replace hB := Nat.le_trans hB ht3.ex.size
  replace hA := ht3.new
  refine V_storeC (Dw := Dw) (off := 0) (ds := [.map (some mb)]) hH3 (i := 0) rfl Tryz.sizeOf200 rfl (Nat.le_of_ble_eq_true rfl) (by exact (List.forall_mem_cons.2 ⟨rfl, (fun _ h => nomatch h)⟩)) rfl hB hA rfl rfl ?_
  intro w4 hH4 ht4
  replace h_v := El.tr (Dw := Dw) h_v ht4
  replace hK := Tr.trans (Dw := Dw) hK ht4
  replace hB := Nat.le_trans hB ht4.ex.size
  replace hA := ht4.new
  refine V_to (fun _ _ => rfl) ?_
  refine C_seq ?_
  refine C_region ?_
  refine V_allocH (Dw := Dw) (B := B) hH4 Tryz.zeroValue73 hB hA rfl ?_
  intro b_s w5 A5 hH5 ht5
  replace h_v := El.tr (Dw := Dw) h_v ht5
  replace hK := Tr.trans (Dw := Dw) hK ht5
  replace hB := Nat.le_trans hB ht5.ex.size
  replace hA := ht5.new
  have hH6 : Hp B A5 w5 (obS (α := ByteArray) 9 (.slice none 0 0) [] :: obC b_s [.slice none 0 0] 73 :: obC b_f [.map (some mb)] 200 :: obMO (κ := ByteArray) Ptr idxPo mb [] :: L) := Hp.addNil (α := ByteArray) (e := 9) hH5
  replace hH : Hp B A5 w5 (obC b_f [.map (some mb)] 200 :: obMO Ptr idxPo mb ([] : List (ByteArray × know_Posting)) :: obC b_s [.slice none 0 0] 73 :: obS (α := ByteArray) 9 (.slice none 0 0) [] :: L) := Hp.front (Hp.front (Hp.front hH6 (i := 1) rfl) (i := 3) rfl) (i := 3) rfl
  refine V_to (fun _ _ => rfl) ?_
  refine C_seq ?_
  refine C_region ?_
  refine V_y (Y_makeFunc rfl rfl) rfl rfl rfl ?_
  refine V_y (Y_assign rfl) rfl rfl rfl ?_
  refine V_to (fun _ _ => rfl) ?_
  refine C_seq ?_
  refine C_region ?_
  refine V_y (Y_move rfl) rfl rfl rfl ?_
  have h_ti := El_know_Entry_1 h_v
  refine V_y (Y_fieldAddr Tryz.underlying33 rfl Tryz.sizeOf9 (by decide) rfl) rfl rfl rfl ?_
  refine V_y (Y_load (El.str h_ti) Tryz.isAgg9 rfl) rfl rfl rfl ?_
  obtain ⟨a, ha, hm⟩ := Option.bind_eq_some_iff.1 hm
  refine V_call Tryz.call103 rfl rfl rfl rfl (know_postings_note_c (Dw := Dw) w5 hB hA v b1 h_v v.title true b_f b_s mb (.slice none 0 0) [] [] hH ha) ?_
  rintro _ w6 ⟨v6, A6, rfl, hH6', ht6⟩
  replace h_v := El.tr (Dw := Dw) h_v ht6
  replace hK := Tr.trans (Dw := Dw) hK ht6
  replace hB := Nat.le_trans hB ht6.ex.size
  replace hA := ht6.new
  obtain ⟨n1_, f1, s1⟩ := a
  replace hH : Hp B A6 w6 (obC b_f [.map (some mb)] 200 :: obMO Ptr idxPo mb f1 :: obC b_s [v6] 73 :: obS (α := ByteArray) 9 v6 s1 :: L) := hH6'
  refine V_y (Y_assign rfl) rfl rfl rfl ?_
  refine V_to (fun _ _ => rfl) ?_
  refine C_seq ?_
  refine C_region ?_
  refine V_y (Y_move rfl) rfl rfl rfl ?_
  refine V_y (Y_move rfl) rfl rfl rfl ?_
  have h_bo := El_know_Entry_2 h_v
  refine V_y (Y_fieldAddr Tryz.underlying33 rfl Tryz.sizeOf9 (by decide) rfl) rfl rfl rfl ?_
  refine V_y (Y_load (El.str h_bo) Tryz.isAgg9 rfl) rfl rfl rfl ?_
  obtain ⟨b, hb, hm⟩ := Option.bind_eq_some_iff.1 hm
  refine V_call Tryz.call103 rfl rfl rfl rfl (know_postings_note_c (Dw := Dw) w6 hB hA v b1 h_v v.body false b_f b_s mb v6 f1 s1 hH hb) ?_
  rintro _ w7 ⟨v7, A7, rfl, hH7, ht7⟩
  replace hK := Tr.trans (Dw := Dw) hK ht7
  replace hB := Nat.le_trans hB ht7.ex.size
  replace hA := ht7.new
  obtain ⟨n2_, f2, s2⟩ := b
  replace hH : Hp B A7 w7 (obC b_f [.map (some mb)] 200 :: obMO Ptr idxPo mb f2 :: obC b_s [v7] 73 :: obS (α := ByteArray) 9 v7 s2 :: L) := hH7
  refine V_y (Y_addI rfl rfl) rfl rfl rfl ?_
  refine V_y (Y_assign rfl) rfl rfl rfl ?_
  refine V_to (fun _ _ => rfl) ?_
  refine C_seq ?_
  refine C_region ?_
  refine V_y (Y_load (Hp.cell (j := 0) hH (i := 2) rfl rfl) Tryz.isAgg73 rfl) rfl rfl rfl ?_
  obtain ⟨q, hq, hm⟩ := Option.bind_eq_some_iff.1 hm
  refine V_call Tryz.call82 rfl rfl rfl rfl (Tryz_cp82 (Dw := Dw) hH (i := 3) rfl hB hA hq) ?_
  rintro _ w8 ⟨rfl, hH8, ht8⟩
  replace hK := Tr.trans (Dw := Dw) hK ht8
  replace hB := Nat.le_trans hB ht8.ex.size
  replace hA := ht8.new
  replace hH : Hp B A7 w8 (obC b_f [.map (some mb)] 200 :: obMO Ptr idxPo mb f2 :: obC b_s [v7] 73 :: obS (α := ByteArray) 9 v7 q :: L) := hH8
  refine V_to (fun _ _ => rfl) ?_
  -- the stems, the map and the postings are from now on only read
  obtain ⟨A9, ht9, h_q, hH9⟩ := Hp.freeze (Dw := Dw) hH (i := 3) rfl hA
  replace hK := Tr.trans (Dw := Dw) hK ht9
  replace hA := ht9.new
  obtain ⟨A10, f0, hP, hf0, hsub, ht10, hH10⟩ := Hp.frz (Dw := Dw) hH9 (i := 1) rfl hA
  obtain ⟨rs, hrl, hF, hPo⟩ := moPersist hP hf0
  replace hK := Tr.trans (Dw := Dw) hK ht10
  replace hA := ht10.new
  replace h_q := Sl.tr (Dw := Dw) h_q ht10
  have hEl : ∀ (j : Nat) (r : Ptr) (p : ByteArray × know_Posting), rs[j]? = some r → f2[j]? = some p → El (α := know_Posting) A10 w8 r.b 0 p.2 := fun j r p h1 h2 => by
    obtain ⟨fb, h3, h4⟩ := hPo j r p h1 h2
    exact idxPo_el h3 h4
  clear hP hf0 hPo
  replace hH : Hp B A10 w8 (obC b_f [.map (some mb)] 200 :: obC b_s [v7] 73 :: L) := hH10
  refine C_seq ?_
  refine C_region ?_
  refine V_y (Y_assign rfl) rfl rfl rfl ?_
  refine V_to (fun _ _ => rfl) ?_
  replace hH : Hp B A10 w8 (obS (α := know_Term) 83 (.slice none 0 0) [] :: obC b_f [.map (some mb)] 200 :: obC b_s [v7] 73 :: L) := Hp.addNil (α := know_Term) (e := 83) hH
  refine C_seq ?_
  refine C_seq ?_
  refine C_region ?_
  refine V_y (Y_load (Hp.cell (j := 0) hH (i := 2) rfl rfl) Tryz.isAgg73 rfl) rfl rfl rfl ?_
  refine V_y (Y_lenSl h_q rfl Tryz.underlying73 rfl) rfl rfl rfl ?_
  refine V_y (Y_move rfl) rfl rfl rfl ?_
  refine V_to (fun _ _ => rfl) ?_
  have hnl := Sl.le h_q
  obtain ⟨o, ho, hm⟩ := Option.bind_eq_some_iff.1 hm
  refine C_cutG (ι := (List know_Term × Value × (Nat → Prop))) (fun ⟨s, v9, A'⟩ => [(7, .int .i64 (w64 (n1_ + n2_))), (8, v9)]) (fun ⟨s, v9, A'⟩ => fun w' => o = .fin s ∧ Hp B A' w' (obS (α := know_Term) 83 v9 s :: obC b_f [.map (some mb)] 200 :: obC b_s [v7] 73 :: L) ∧ Tr Dw B A10 w8 A' w') ?_ ?_
  · refine C_block ?_
    refine C_range ho (fun k s a w' => ∃ i : (Value × (Nat → Prop)), Has ⟨45, [], none⟩ a ([(4, .pointer (some ⟨b_f, 0, none⟩)), (7, .int .i64 (w64 (n1_ + n2_))), (8, i.1), (25, v7), (26, .int .i64 (q.length : Int)), (27, .int .i64 (k : Int))]) ∧ Hp B i.2 w' (obS (α := know_Term) 83 i.1 s :: obC b_f [.map (some mb)] 200 :: obC b_s [v7] 73 :: L) ∧ Tr Dw B A10 w8 i.2 w') (fun a ha => ⟨(.slice none 0 0, A10), ha.sub ⟨rfl, rfl, rfl, rfl, rfl, rfl, trivial⟩, hH, Tr.refl (Dw := Dw) hA⟩) ?_
    rintro K k s a w9 ⟨⟨v9, A11⟩, ha9, hH11, hr⟩ hle K9 hfin
    refine C_of ?_ ha9
    replace h_q := Sl.tr (Dw := Dw) h_q hr
    replace hF := FMb.tr (Dw := Dw) hF hr
    replace hB := Nat.le_trans hB hr.ex.size
    replace hA := hr.new
    replace hH : Hp B A11 w9 (obS (α := know_Term) 83 v9 s :: obC b_f [.map (some mb)] 200 :: obC b_s [v7] 73 :: L) := hH11
    refine C_seq (C_region (V_y (Y_lss rfl rfl) rfl rfl rfl (V_to (fun _ _ => rfl) ?_)))
    refine C_seq ?_
    refine C_cond rfl (fun hc => ?_) (fun hc => ?_)
    · have hlt := lt_of_dec hc
      obtain ⟨x, hx, hnx⟩ := K9 hlt
      refine C_skip_to (fun _ _ => rfl) ?_
      refine C_seq ?_
      refine C_block ?_
      refine C_seq ?_
      refine C_region ?_
      obtain ⟨t, ht, hx⟩ := Option.bind_eq_some_iff.1 hx
      refine V_indexAddr h_q ht Tryz.underlying73 Tryz.sizeOf9 rfl rfl rfl ?_
      intro b4 o4 h4
      refine V_y (Y_load (El.str h4) Tryz.isAgg9 rfl) rfl rfl rfl ?_
      refine V_y (Y_assign rfl) rfl rfl rfl ?_
      refine V_to (fun _ _ => rfl) ?_
      obtain ⟨p, hp, hx⟩ := Option.bind_eq_some_iff.1 hx
      obtain ⟨j, rf, hj, hrj, hg, _⟩ := moE_some (rs := rs) hrl hp
      have hpo := El.tr (Dw := Dw) (hEl j rf (t, p) hrj hj) hr
      refine C_region ?_
      refine V_y (Y_move rfl) rfl rfl rfl ?_
      refine V_y (Y_move rfl) rfl rfl rfl ?_
      refine V_y (Y_load (Hp.cell (j := 0) hH (i := 1) rfl rfl) Tryz.isAgg200 rfl) rfl rfl rfl ?_
      refine V_y (Y_move rfl) rfl rfl rfl ?_
      refine V_y (Y_lookupF (zz := (none : Option Ptr)) hF Tryz.underlying200 Tryz.underlying9 Tryz.zeroValue180 rfl rfl rfl) rfl rfl rfl ?_
      rw [hg]
      refine V_y (Y_nilCheck (a := ⟨rf.b, 0, none⟩) rfl) rfl rfl rfl ?_
      obtain ⟨vt, vb, hat, h_t, h_b⟩ := El_know_Posting hpo
      refine V_y (Y_loadA hat Tryz.isAgg86 Tryz.sizeOf86 rfl) rfl rfl rfl ?_
      refine V_buildSlice (Dw := Dw) (cells := #[.int .i64 p.id_, vt, vb]) (l := ([p] : List know_Posting)) (len := 1) Tryz.underlying81 Tryz.sizeOf86 Tryz.zeroValue86 rfl (by obtain ⟨a89, c90, e91, _⟩ := Sl.form h_t; subst e91; obtain ⟨a92, c93, e94, _⟩ := Sl.form h_b; subst e94; kernel_rfl) (show (1 * 3 : Nat) ≠ 0 by decide) (show (1 * 3 : Nat) ≤ 2 ^ 24 by decide) hA ⟨[.int .i64 p.id_, vt, vb], _, rfl, ⟨[.int .i64 p.id_], _, rfl, rfl, ⟨[vt], _, rfl, ⟨_, rfl, h_t⟩, ⟨_, rfl, h_b⟩⟩⟩, rfl⟩ rfl rfl ?_
      intro v12 w12 hk12 h12
      have ht12 := Kp.tr (Dw := Dw) hk12 hA hB
      replace hH := Hp.kp (Dw := Dw) hH hk12
      replace hr := Tr.trans (Dw := Dw) hr ht12
      replace hB := Nat.le_trans hB ht12.ex.size
      replace hA := ht12.new
      refine V_y (Y_build (cells := #[.string t, v12]) Tryz.underlying83 Tryz.zeroValue83 (Tryz_places83 _ Tryz.underlying83) rfl (by obtain ⟨a89, c90, e91, _⟩ := Sl.form h12; subst e91; kernel_rfl)) rfl rfl rfl ?_
      refine V_buildSlice (Dw := Dw) (cells := #[.string t, v12]) (l := ([(⟨t, [p]⟩ : know_Term)] : List know_Term)) (len := 1) Tryz.underlying24 Tryz.sizeOf83 Tryz.zeroValue83 rfl (by obtain ⟨a89, c90, e91, _⟩ := Sl.form h12; subst e91; kernel_rfl) (show (1 * 2 : Nat) ≠ 0 by decide) (show (1 * 2 : Nat) ≤ 2 ^ 24 by decide) hA ⟨[.string t, v12], _, rfl, ⟨[.string t], _, rfl, rfl, ⟨_, rfl, h12⟩⟩, rfl⟩ rfl rfl ?_
      intro v13 w13 hk13 h13
      have ht13 := Kp.tr (Dw := Dw) hk13 hA hB
      replace hH := Hp.kp (Dw := Dw) hH hk13
      replace hr := Tr.trans (Dw := Dw) hr ht13
      replace hB := Nat.le_trans hB ht13.ex.size
      replace hA := ht13.new
      obtain ⟨s', hs', hx⟩ := Option.bind_eq_some_iff.1 hx
      refine V_appendH (Dw := Dw) (e := 83) (v := v9) (l := s) (ti := Tryz.t83) (bytes := 40) (lim := 3518437208883) hH (i := 0) rfl h13 hs' Tryz.underlying24 Tryz_info83 rfl rfl rfl rfl (by decide) (by decide) (by decide) hB hA rfl rfl rfl ?_
      intro v14 w14 A14 hH14 ht14
      replace hr := Tr.trans (Dw := Dw) hr ht14
      replace hH : Hp B A14 w14 (obS (α := know_Term) 83 v14 s' :: obC b_f [.map (some mb)] 200 :: obC b_s [v7] 73 :: L) := hH14
      refine V_y (Y_assign rfl) rfl rfl rfl ?_
      refine V_to (fun _ _ => rfl) ?_
      refine C_region ?_
      refine V_y (Y_addI rfl rfl) rfl rfl rfl ?_
      refine V_y (Y_move rfl) rfl rfl rfl ?_
      obtain rfl := Option.some.inj hx
      refine V_end (fun a ha => ?_)
      exact ⟨s', hlt, hnx, ⟨(v14, A14), ha.sub ⟨rfl, rfl, rfl, rfl, rfl, (congrArg (fun z => some (Value.int .i64 z)) (w64_succ hlt hnl)), trivial⟩, hH, hr⟩⟩
    · refine C_exit (fun a ha => ?_)
      exact ⟨(s, v9, A11), ha.sub ⟨rfl, rfl, trivial⟩, ⟨(hfin (eq_of_dec hle hc)).symm, hH, hr⟩⟩
  rintro ⟨s, v9, A9'⟩ w9 ⟨rfl, hH9', hr⟩ a ha9
  rw [Lp.andThen_fin] at hm
  obtain rfl := Option.some.inj hm
  replace hK := Tr.trans (Dw := Dw) hK hr
  refine C_at (n := ⟨45, [], none⟩) (fun _ _ => rfl) ?_ ha9
  refine C_seq ?_
  refine C_region ?_
  refine V_y (Y_move rfl) rfl rfl rfl ?_
  refine V_y (Y_move rfl) rfl rfl rfl ?_
  refine V_y (Y_assign rfl) rfl rfl rfl ?_
  refine V_y (Y_assign rfl) rfl rfl rfl ?_
  refine V_to (fun _ _ => rfl) ?_
  refine C_ret ?_
  try simp only [↓inBlock_ret, ↓then_ret]
  exact retQ rfl (Res.two Tryz.results71 rfl rfl) ⟨v9, A9', rfl, Hp.drop (i := 1) (Hp.drop (i := 1) hH9' rfl) rfl, hK⟩

set_option maxRecDepth 4000 in
set_option maxHeartbeats 4000000 in
theorem slices_BinarySearchFunc_Lknow_Term_know_Term_know_Term_c (w : World) {A : Nat → Prop} (hA : ∀ b, w.heap.size ≤ b → A b) (x : (List know_Term)) (v_x : Value) (h_x : Sl A w v_x x) (target : know_Term) (v_target : Value) (h_target : Sl A w v_target target.list_) (cmp : know_Term → know_Term → Option Int) (cmp_f : FuncId) (cmp_a cmp_c : Array Value) (cmp_call : ∀ (args : Array Value) (w : World), (callFunc cmp_f args).run Tryz.prog w = .ok (.enter cmp_f args) w) (cmp_spec : ∀ (w1 : World) (A1 : Nat → Prop), Tr Dw w.heap.size A w A1 w1 → (∀ b, w1.heap.size ≤ b → A1 b) → ∀ (y0 : know_Term) (v1 : Value) (h2 : Sl A1 w1 v1 y0.list_) (y1 : know_Term) (v3 : Value) (h4 : Sl A1 w1 v3 y1.list_) (r : Int), cmp y0 y1 = some r → Ret Tryz.prog cmp_f (cmp_a ++ #[.agg #[.string y0.word, v1], .agg #[.string y1.word, v3]] ++ cmp_c) w1 fun v w' => v = .int .i64 r ∧ Kp Dw w1 w') {r : (Int × Bool)} (hm : slices_BinarySearchFunc_Lknow_Term_know_Term_know_Term x target cmp = some r) : Ret Tryz.prog 72 #[v_x, .agg #[.string target.word, v_target], .func (.func cmp_f) cmp_a cmp_c] w fun v w' => v = .tuple #[.int .i64 r.1, .bool r.2] ∧ Kp Dw w w' := by
  unfold slices_BinarySearchFunc_Lknow_Term_know_Term_know_Term at hm
  refine enter Tryz.func72 rfl Tryz.ntmps72 rfl ?_
  have hA0 := hA
  have hB := Nat.le_refl w.heap.size
  have hK : Tr Dw w.heap.size A w A w := Tr.refl (Dw := Dw) hA
  have hH : Hp w.heap.size A w [] := Hp.nil
  refine C_seq ?_
  refine C_region ?_
  refine V_box rfl rfl ?_
  intro b5 w6 h7
  have hk9 := h7.kp (Dw := Dw)
  have h8 : El (α := know_Term) A w6 b5 0 target := h7.el hA ⟨[.string target.word], _, rfl, rfl, ⟨_, rfl, h_target⟩⟩
  have ht10 := Kp.tr (Dw := Dw) hk9 hA hB
  replace hH := Hp.kp (Dw := Dw) hH hk9
  replace h_x := Sl.tr (Dw := Dw) h_x ht10
  replace h_target := Sl.tr (Dw := Dw) h_target ht10
  replace hK := Tr.trans (Dw := Dw) hK ht10
  replace hB := Nat.le_trans hB ht10.ex.size
  replace hA := ht10.new
  refine V_y (Y_assign rfl) rfl rfl rfl ?_
  refine V_y (Y_assign rfl) rfl rfl rfl ?_
  refine V_to (fun _ _ => rfl) ?_
  refine C_seq ?_
  refine C_region ?_
  refine V_y (Y_move rfl) rfl rfl rfl ?_
  refine V_y (Y_lenSl h_x rfl Tryz.underlying24 rfl) rfl rfl rfl ?_
  refine V_y (Y_assign rfl) rfl rfl rfl ?_
  refine V_to (fun _ _ => rfl) ?_
  refine C_seq ?_
  refine C_region ?_
  refine V_y (Y_move rfl) rfl rfl rfl ?_
  refine V_y (Y_assign rfl) rfl rfl rfl ?_
  refine V_y (Y_assign rfl) rfl rfl rfl ?_
  refine V_to (fun _ _ => rfl) ?_
  refine C_seq ?_
  obtain ⟨o11, ho11, hm⟩ := Option.bind_eq_some_iff.1 hm
  refine C_cutG (ι := ((Int × Int) × (Nat → Prop))) (fun ⟨s12, A18⟩ => [(0, v_x), (2, .func (.func cmp_f) cmp_a cmp_c), (4, .pointer (some ⟨b5, 0, none⟩)), (8, .int .i64 (x.length : Int)), (9, .int .i64 s12.1)]) (fun ⟨s12, A18⟩ => fun w' => o11 = .fin s12 ∧ Hp w.heap.size A18 w' ([]) ∧ Tr Dw w.heap.size A w6 A18 w') ?_ ?_
  · refine C_block ?_
    refine C_while ho11 (fun s20 a w' => ∃ i : (Nat → Prop), Has ⟨49, [], none⟩ a ([(0, v_x), (2, .func (.func cmp_f) cmp_a cmp_c), (4, .pointer (some ⟨b5, 0, none⟩)), (8, .int .i64 (x.length : Int)), (9, .int .i64 s20.1), (10, .int .i64 s20.2)]) ∧ Hp w.heap.size i w' ([]) ∧ Tr Dw w.heap.size A w6 i w') (fun a ha => ⟨A, ha.sub ⟨rfl, rfl, rfl, rfl, rfl, rfl, trivial⟩, ⟨hH, Tr.refl (Dw := Dw) hA⟩⟩) ?_
    rintro K s20 a w21 ⟨A22, ha67, hH23, hr13⟩ K30
    refine C_of ?_ ha67
    replace h_x := Sl.tr (Dw := Dw) h_x hr13
    replace h8 := El.tr (Dw := Dw) h8 hr13
    replace hK := Tr.trans (Dw := Dw) hK hr13
    replace hB := Nat.le_trans hB hr13.ex.size
    replace hA := hr13.new
    replace hH : Hp w.heap.size A22 w21 ([]) := hH23
    obtain ⟨x24, h25, h26⟩ := K30
    refine C_seq ?_
    refine C_seq ?_
    refine C_region ?_
    refine V_y (Y_move rfl) rfl rfl rfl ?_
    refine V_y (Y_move rfl) rfl rfl rfl ?_
    refine V_y (Y_lss rfl rfl) rfl rfl rfl ?_
    refine V_to (fun _ _ => rfl) ?_
    refine C_cond rfl (fun hc31 => ?_) (fun hc31 => ?_)
    · rw [if_pos hc31] at h25
      refine C_skip_to (fun _ _ => rfl) ?_
      obtain ⟨s33, ho32, h25⟩ := Option.bind_eq_some_iff.1 h25
      refine C_cutG (ι := (Nat → Prop)) (fun (A38 : (Nat → Prop)) => [(0, v_x), (2, .func (.func cmp_f) cmp_a cmp_c), (4, .pointer (some ⟨b5, 0, none⟩)), (8, .int .i64 (x.length : Int)), (9, .int .i64 s33.1), (10, .int .i64 s33.2)]) (fun (A38 : (Nat → Prop)) => fun w' => Hp w.heap.size A38 w' ([]) ∧ Tr Dw w.heap.size A22 w21 A38 w') ?_ ?_
      · have hr34 : Tr Dw w.heap.size A22 w21 A22 w21 := Tr.refl (Dw := Dw) hA
        refine C_block ?_
        refine C_seq ?_
        refine C_region ?_
        refine V_y (Y_move rfl) rfl rfl rfl ?_
        refine V_y (Y_move rfl) rfl rfl rfl ?_
        refine V_y (Y_addI rfl rfl) rfl rfl rfl ?_
        refine V_y (Y_convI Tryz.underlying3 Tryz.underlying191 rfl) rfl rfl rfl ?_
        obtain ⟨x40, hx40, ho32⟩ := Option.bind_eq_some_iff.1 ho32
        refine V_y (Y_shr hx40 rfl rfl) rfl rfl rfl ?_
        refine V_y (Y_convI Tryz.underlying191 Tryz.underlying3 rfl) rfl rfl rfl ?_
        refine V_y (Y_assign rfl) rfl rfl rfl ?_
        refine V_to (fun _ _ => rfl) ?_
        refine C_seq ?_
        refine C_region_q (Dw := Dw) Tryz_mixed (by kernel_rfl) ?_
        refine VQ_y (fun w' hw' => Y_move rfl) rfl rfl rfl ?_
        refine VQ_y (fun w' hw' => Y_move rfl) rfl rfl rfl ?_
        refine VQ_y (fun w' hw' => Y_move rfl) rfl rfl rfl ?_
        obtain ⟨x41, hx41, ho32⟩ := Option.bind_eq_some_iff.1 ho32
        refine VQ_indexAddr h_x hx41 Tryz.underlying24 Tryz.sizeOf83 rfl rfl rfl ?_
        intro b42 o43 h44
        obtain ⟨v45, h47, h46⟩ := El_know_Term h44
        refine VQ_y (fun w' hw' => Y_loadA (At.kp (Dw := Dw) h47 hw' h44.2.1) Tryz.isAgg83 Tryz.sizeOf83 rfl) rfl rfl rfl ?_
        obtain ⟨v48, h50, h49⟩ := El_know_Term h8
        refine VQ_y (fun w' hw' => Y_loadA (At.kp (Dw := Dw) h50 hw' h8.2.1) Tryz.isAgg83 Tryz.sizeOf83 rfl) rfl rfl rfl ?_
        obtain ⟨x51, hx51, ho32⟩ := Option.bind_eq_some_iff.1 ho32
        refine VQ_call (.int .i64 x51) cmp_call rfl rfl rfl rfl (fun w' hw' => (cmp_spec w' _ (Tr.trans (Dw := Dw) hK (Kp.tr (Dw := Dw) hw' hA hB)) (fun b hb => hA b (Nat.le_trans hw'.size hb)) x41 v45 (Sl.kp (Dw := Dw) h46 hw') target v48 (Sl.kp (Dw := Dw) h49 hw') _ hx51).mono fun _ _ h => ⟨h.1, Kp.trans (Dw := Dw) hw' h.2⟩) ?_
        refine VQ_y (fun w' hw' => Y_lss rfl rfl) rfl rfl rfl ?_
        refine VQ_to (fun _ _ => rfl) (fun w52 hk53 => ?_)
        have ht54 := Kp.tr (Dw := Dw) hk53 hA hB
        replace hH := Hp.kp (Dw := Dw) hH hk53
        replace h_x := Sl.tr (Dw := Dw) h_x ht54
        replace h8 := El.tr (Dw := Dw) h8 ht54
        replace hK := Tr.trans (Dw := Dw) hK ht54
        replace hr13 := Tr.trans (Dw := Dw) hr13 ht54
        replace hr34 := Tr.trans (Dw := Dw) hr34 ht54
        replace hB := Nat.le_trans hB ht54.ex.size
        replace hA := ht54.new
        obtain ⟨s56, ho55, ho32⟩ := Option.bind_eq_some_iff.1 ho32
        refine C_cutG (ι := Unit) (fun (_ : Unit) => [(0, v_x), (2, .func (.func cmp_f) cmp_a cmp_c), (4, .pointer (some ⟨b5, 0, none⟩)), (8, .int .i64 (x.length : Int)), (9, .int .i64 s56.1), (10, .int .i64 s56.2)]) (fun (_ : Unit) => fun w' => w52 = w') ?_ ?_
        · refine C_cond rfl (fun hc61 => ?_) (fun hc61 => ?_)
          · rw [if_pos hc61] at ho55
            refine C_region ?_
            refine V_y (Y_move rfl) rfl rfl rfl ?_
            refine V_y (Y_addI rfl rfl) rfl rfl rfl ?_
            refine V_y (Y_assign rfl) rfl rfl rfl ?_
            obtain rfl := Option.some.inj ho55
            refine V_end (fun a ha62 => ?_)
            exact ⟨(), ha62.sub ⟨rfl, rfl, rfl, rfl, rfl, rfl, trivial⟩, rfl⟩
          · rw [if_neg (nt hc61)] at ho55
            refine C_region ?_
            refine V_y (Y_move rfl) rfl rfl rfl ?_
            refine V_y (Y_assign rfl) rfl rfl rfl ?_
            obtain rfl := Option.some.inj ho55
            refine V_end (fun a ha63 => ?_)
            exact ⟨(), ha63.sub ⟨rfl, rfl, rfl, rfl, rfl, rfl, trivial⟩, rfl⟩
        rintro _ _ rfl a ha60
        obtain rfl := Option.some.inj ho32
        exact ⟨A22, ha60.sub ⟨rfl, rfl, rfl, rfl, rfl, rfl, trivial⟩, ⟨hH, hr34⟩⟩
      rintro A38 w35 ⟨hH39, hk36⟩ a ha37
      replace h_x := Sl.tr (Dw := Dw) h_x hk36
      replace h8 := El.tr (Dw := Dw) h8 hk36
      replace hK := Tr.trans (Dw := Dw) hK hk36
      replace hr13 := Tr.trans (Dw := Dw) hr13 hk36
      replace hB := Nat.le_trans hB hk36.ex.size
      replace hA := hk36.new
      replace hH : Hp w.heap.size A38 w35 ([]) := hH39
      obtain rfl := Option.some.inj h25
      exact ⟨(s33.1, s33.2), h26, ⟨A38, ha37.sub ⟨rfl, rfl, rfl, rfl, rfl, rfl, trivial⟩, ⟨hH, hr13⟩⟩⟩
    · rw [if_neg (nt hc31)] at h25
      obtain rfl := Option.some.inj h25
      refine C_exit (fun a ha66 => ?_)
      exact ⟨((s20.1, s20.2), A22), ha66.sub ⟨rfl, rfl, rfl, rfl, rfl, trivial⟩, ⟨h26.symm, hH, hr13⟩⟩
  rintro ⟨s12, A18⟩ w15 ⟨rfl, hH19, hk16⟩ a ha17
  rw [Lp.andThen_fin] at hm
  replace h_x := Sl.tr (Dw := Dw) h_x hk16
  replace h8 := El.tr (Dw := Dw) h8 hk16
  replace hK := Tr.trans (Dw := Dw) hK hk16
  replace hB := Nat.le_trans hB hk16.ex.size
  replace hA := hk16.new
  replace hH : Hp w.heap.size A18 w15 ([]) := hH19
  refine C_at (n := ⟨49, [], none⟩) (fun _ _ => rfl) ?_ ha17
  refine C_seq ?_
  refine C_region_q (Dw := Dw) Tryz_mixed (by kernel_rfl) ?_
  refine VQ_y (fun w' hw' => Y_move rfl) rfl rfl rfl ?_
  refine VQ_y (fun w' hw' => Y_move rfl) rfl rfl rfl ?_
  refine VQ_y (fun w' hw' => Y_move rfl) rfl rfl rfl ?_
  refine VQ_y (fun w' hw' => Y_lss rfl rfl) rfl rfl rfl ?_
  refine VQ_y (fun w' hw' => Y_move rfl) rfl rfl rfl ?_
  obtain ⟨s69, hs69, hm⟩ := Option.bind_eq_some_iff.1 hm
  refine VQ_cut 9 (fun _ : Unit => [(35, .int .i64 s12.1), (48, .bool s69)]) (fun _ => True) ?_ ?_
  · simp only [List.take, List.drop]
    rcases Bool.eq_false_or_eq_true (decide (s12.1 < (x.length : Int))) with hc68 | hc68
    · rw [if_pos hc68] at hs69
      refine VQ_ge rfl rfl rfl hc68 ?_
      refine VQ_y (fun w' hw' => Y_move rfl) rfl rfl rfl ?_
      refine VQ_ge rfl rfl rfl hc68 ?_
      refine VQ_y (fun w' hw' => Y_move rfl) rfl rfl rfl ?_
      refine VQ_ge rfl rfl rfl hc68 ?_
      refine VQ_y (fun w' hw' => Y_move rfl) rfl rfl rfl ?_
      refine VQ_ge rfl rfl rfl hc68 ?_
      obtain ⟨x70, hx70, hs69⟩ := Option.bind_eq_some_iff.1 hs69
      refine VQ_indexAddr h_x hx70 Tryz.underlying24 Tryz.sizeOf83 rfl rfl rfl ?_
      intro b71 o72 h73
      refine VQ_ge rfl rfl rfl hc68 ?_
      obtain ⟨v74, h76, h75⟩ := El_know_Term h73
      refine VQ_y (fun w' hw' => Y_loadA (At.kp (Dw := Dw) h76 hw' h73.2.1) Tryz.isAgg83 Tryz.sizeOf83 rfl) rfl rfl rfl ?_
      refine VQ_ge rfl rfl rfl hc68 ?_
      obtain ⟨v77, h79, h78⟩ := El_know_Term h8
      refine VQ_y (fun w' hw' => Y_loadA (At.kp (Dw := Dw) h79 hw' h8.2.1) Tryz.isAgg83 Tryz.sizeOf83 rfl) rfl rfl rfl ?_
      refine VQ_ge rfl rfl rfl hc68 ?_
      obtain ⟨x80, hx80, hs69⟩ := Option.bind_eq_some_iff.1 hs69
      refine VQ_call (.int .i64 x80) cmp_call rfl rfl rfl rfl (fun w' hw' => (cmp_spec w' _ (Tr.trans (Dw := Dw) hK (Kp.tr (Dw := Dw) hw' hA hB)) (fun b hb => hA b (Nat.le_trans hw'.size hb)) x70 v74 (Sl.kp (Dw := Dw) h75 hw') target v77 (Sl.kp (Dw := Dw) h78 hw') _ hx80).mono fun _ _ h => ⟨h.1, Kp.trans (Dw := Dw) hw' h.2⟩) ?_
      refine VQ_ge rfl rfl rfl hc68 ?_
      refine VQ_y (fun w' hw' => Y_eql rfl rfl) rfl rfl rfl ?_
      refine VQ_y (fun _ _ => Y_pick_te rfl hc68 rfl) rfl rfl rfl ?_
      obtain rfl := Option.some.inj hs69
      exact VQ_end fun a ha => ⟨(), ha.sub ⟨rfl, rfl, trivial⟩, trivial⟩
    · rw [if_neg (nt hc68)] at hs69
      refine VQ_gn rfl rfl rfl hc68 rfl rfl rfl ?_
      refine VQ_gn rfl rfl rfl hc68 rfl rfl rfl ?_
      refine VQ_gn rfl rfl rfl hc68 rfl rfl rfl ?_
      refine VQ_gn rfl rfl rfl hc68 rfl rfl rfl ?_
      refine VQ_gn rfl rfl rfl hc68 rfl rfl rfl ?_
      refine VQ_gn rfl rfl rfl hc68 rfl rfl rfl ?_
      refine VQ_gn rfl rfl rfl hc68 rfl rfl rfl ?_
      refine VQ_gn rfl rfl rfl hc68 rfl rfl rfl ?_
      refine VQ_y (fun _ _ => Y_pick_fe rfl hc68 rfl) rfl rfl rfl ?_
      obtain rfl := Option.some.inj hs69
      exact VQ_end fun a ha => ⟨(), ha.sub ⟨rfl, rfl, trivial⟩, trivial⟩
  simp only [List.take, List.drop]
  rintro _ _
  refine VQ_y (fun w' hw' => Y_assign rfl) rfl rfl rfl ?_
  refine VQ_y (fun w' hw' => Y_assign rfl) rfl rfl rfl ?_
  refine VQ_to (fun _ _ => rfl) (fun w81 hk82 => ?_)
  have ht83 := Kp.tr (Dw := Dw) hk82 hA hB
  replace hH := Hp.kp (Dw := Dw) hH hk82
  replace hK := Tr.trans (Dw := Dw) hK ht83
  replace hB := Nat.le_trans hB ht83.ex.size
  replace hA := ht83.new
  obtain rfl := Option.some.inj hm
  refine C_ret ?_
  try simp only [↓inBlock_ret, ↓then_ret]
  exact retQ rfl (Res.two Tryz.results72 rfl rfl) ⟨rfl, hK.kp⟩

def Tryz_strings_Compare_lay_ren : Go.Shelf.Ren := ⟨fun | 106 => 62 | 213 => 96 | 265 => 134 | n => n, fun | 0 => 0 | 1 => 1 | 2 => 2 | 3 => 3 | 4 => 4 | 5 => 5 | 6 => 6 | 7 => 7 | 8 => 8 | 9 => 9 | 10 => 10 | 11 => 11 | 12 => 12 | 13 => 13 | 14 => 14 | 15 => 15 | 16 => 16 | 17 => 17 | 18 => 18 | 19 => 19 | 20 => 20 | 21 => 21 | 22 => 208 | 23 => 207 | 27 => 160 | 28 => 23 | 29 => 162 | 30 => 166 | 31 => 73 | 34 => 79 | 35 => 252 | 37 => 227 | 40 => 205 | 41 => 198 | 43 => 157 | 46 => 191 | 47 => 196 | 51 => 219 | 52 => 218 | 53 => 221 | 54 => 220 | 55 => 263 | 63 => 265 | 64 => 280 | 65 => 206 | 66 => 177 | 68 => 164 | 69 => 182 | 70 => 229 | 71 => 230 | 72 => 231 | 73 => 232 | 74 => 233 | 75 => 234 | 76 => 235 | 77 => 236 | 80 => 239 | 81 => 289 | 100 => 183 | 101 => 76 | 103 => 262 | 104 => 176 | 105 => 237 | 106 => 238 | 111 => 193 | 112 => 192 | 114 => 275 | 115 => 241 | 116 => 242 | 117 => 243 | 118 => 244 | 119 => 276 | 122 => 240 | 123 => 245 | 124 => 246 | 127 => 264 | 131 => 150 | 135 => 209 | 137 => 277 | 138 => 278 | 139 => 279 | 146 => 282 | 151 => 283 | 155 => 261 | 164 => 272 | 165 => 273 | 166 => 274 | 182 => 212 | 183 => 213 | 188 => 247 | 189 => 248 | 190 => 249 | 191 => 250 | 192 => 251 | 218 => 253 | 219 => 254 | 220 => 255 | 222 => 257 | 224 => 266 | 225 => 267 | 228 => 268 | 229 => 269 | 231 => 281 | 238 => 284 | 239 => 285 | 240 => 286 | 241 => 287 | 242 => 288 | 243 => 290 | 244 => 291 | 245 => 292 | 246 => 293 | 247 => 294 | 248 => 295 | 249 => 296 | n => n, fun | 1 => 0 | 3 => 1 | 4 => 2 | n => n⟩
theorem Tryz_strings_Compare_lay : Go.Proofs.Lays.n106 Tryz.prog Tryz_strings_Compare_lay_ren := {
  mixed := by kernel_rfl,
  f106 := Tryz.func62.trans (congrArg some (by kernel_rfl)),
  f213 := Tryz.func96.trans (congrArg some (by kernel_rfl)),
  f265 := Tryz.func134.trans (congrArg some (by kernel_rfl)),
  t3 := Tryz.underlying3,
  a3 := Tryz.isAgg3,
  z3 := Tryz.sizeOf3,
  v3 := Tryz.zeroValue3,
  t9 := Tryz.underlying9,
  a9 := Tryz.isAgg9,
  z9 := Tryz.sizeOf9,
  v9 := Tryz.zeroValue9 }
theorem strings_Compare_c (w : World) {A : Nat → Prop} (hA : ∀ b, w.heap.size ≤ b → A b) (a : ByteArray) (b : ByteArray) {r : Int} (hm : strings_Compare a b = some r) : Ret Tryz.prog 62 #[.string a, .string b] w fun v w' => v = .int .i64 r ∧ Kp Dw w w' := by
  unfold strings_Compare at hm
  obtain rfl := Option.some.inj hm
  refine Calls.mono (Go.Proofs.Any.strings_Compare Tryz_strings_Compare_lay a b w) ?_
  rintro _ w' ⟨rfl, rfl⟩
  exact ⟨_, rfl, rfl, Kp.refl (Dw := Dw) _⟩

set_option maxRecDepth 4000 in
set_option maxHeartbeats 4000000 in
theorem know_byWord_c (w : World) {A : Nat → Prop} (hA : ∀ b, w.heap.size ≤ b → A b) (a_ : know_Term) (v_a_ : Value) (h_a_ : Sl A w v_a_ a_.list_) (b : know_Term) (v_b : Value) (h_b : Sl A w v_b b.list_) {r : Int} (hm : know_byWord a_ b = some r) : Ret Tryz.prog 73 #[.agg #[.string a_.word, v_a_], .agg #[.string b.word, v_b]] w fun v w' => v = .int .i64 r ∧ Kp Dw w w' := by
  unfold know_byWord at hm
  refine enter Tryz.func73 rfl Tryz.ntmps73 rfl ?_
  have hA0 := hA
  have hB := Nat.le_refl w.heap.size
  have hK : Tr Dw w.heap.size A w A w := Tr.refl (Dw := Dw) hA
  have hH : Hp w.heap.size A w [] := Hp.nil
  refine C_seq ?_
  refine C_region ?_
  refine V_box rfl rfl ?_
  intro b5 w6 h7
  have hk9 := h7.kp (Dw := Dw)
  have h8 : El (α := know_Term) A w6 b5 0 a_ := h7.el hA ⟨[.string a_.word], _, rfl, rfl, ⟨_, rfl, h_a_⟩⟩
  have ht10 := Kp.tr (Dw := Dw) hk9 hA hB
  replace hH := Hp.kp (Dw := Dw) hH hk9
  replace h_a_ := Sl.tr (Dw := Dw) h_a_ ht10
  replace h_b := Sl.tr (Dw := Dw) h_b ht10
  replace hK := Tr.trans (Dw := Dw) hK ht10
  replace hB := Nat.le_trans hB ht10.ex.size
  replace hA := ht10.new
  refine V_box rfl rfl ?_
  intro b11 w12 h13
  have hk15 := h13.kp (Dw := Dw)
  have h14 : El (α := know_Term) A w12 b11 0 b := h13.el hA ⟨[.string b.word], _, rfl, rfl, ⟨_, rfl, h_b⟩⟩
  have ht16 := Kp.tr (Dw := Dw) hk15 hA hB
  replace hH := Hp.kp (Dw := Dw) hH hk15
  replace h_a_ := Sl.tr (Dw := Dw) h_a_ ht16
  replace h_b := Sl.tr (Dw := Dw) h_b ht16
  replace h8 := El.tr (Dw := Dw) h8 ht16
  replace hK := Tr.trans (Dw := Dw) hK ht16
  replace hB := Nat.le_trans hB ht16.ex.size
  replace hA := ht16.new
  refine V_y (Y_assign rfl) rfl rfl rfl ?_
  refine V_to (fun _ _ => rfl) ?_
  refine C_seq ?_
  refine C_region ?_
  have h17 := El_know_Term_0 h8
  refine V_y (Y_fieldAddr Tryz.underlying83 rfl Tryz.sizeOf9 (by decide) rfl) rfl rfl rfl ?_
  refine V_y (Y_load (El.str h17) Tryz.isAgg9 rfl) rfl rfl rfl ?_
  have h18 := El_know_Term_0 h14
  refine V_y (Y_fieldAddr Tryz.underlying83 rfl Tryz.sizeOf9 (by decide) rfl) rfl rfl rfl ?_
  refine V_y (Y_load (El.str h18) Tryz.isAgg9 rfl) rfl rfl rfl ?_
  obtain ⟨x19, hx19, hm⟩ := Option.bind_eq_some_iff.1 hm
  refine V_call Tryz.call62 rfl rfl rfl rfl (strings_Compare_c (Dw := Dw) w12 hA a_.word b.word hx19) ?_
  rintro _ w20 ⟨rfl, hk21⟩
  have ht22 := Kp.tr (Dw := Dw) hk21 hA hB
  replace hH := Hp.kp (Dw := Dw) hH hk21
  replace h8 := El.tr (Dw := Dw) h8 ht22
  replace h14 := El.tr (Dw := Dw) h14 ht22
  replace h17 := El.tr (Dw := Dw) h17 ht22
  replace h18 := El.tr (Dw := Dw) h18 ht22
  replace hK := Tr.trans (Dw := Dw) hK ht22
  replace hB := Nat.le_trans hB ht22.ex.size
  replace hA := ht22.new
  refine V_y (Y_assign rfl) rfl rfl rfl ?_
  refine V_to (fun _ _ => rfl) ?_
  obtain rfl := Option.some.inj hm
  refine C_ret ?_
  try simp only [↓inBlock_ret, ↓then_ret]
  exact retQ rfl (Res.one Tryz.results73 rfl) ⟨rfl, hK.kp⟩

end Go.Proofs.YtldkdabcdbgpbaaGreatDoor.W
