import Derived.Test.YtldkdabcdbgpbaaGreatDoorProg
import Derived.Test.YtldkdabcdbgpbaaGreatDoorGe
import Derived.Test.YtldkdabcdbgpbaaGreatDoorIndexChangesM
import Derived.KernelRfl
import Derived.Test.YtldkdabcdbgpbaaGreatDoorSq
import Derived.Test.YtldkdabcdbgpbaaGreatDoorHq
import Derived.Test.YtldkdabcdbgpbaaGreatDoorIa
import Derived.Test.YtldkdabcdbgpbaaGreatDoorIb
import Derived.Test.YtldkdabcdbgpbaaGreatDoorHs
import Derived.Test.YtldkdabcdbgpbaaGreatDoorIc
import Derived.Test.YtldkdabcdbgpbaaGreatDoorGu
import Derived.Shelf.Small.Strs
import Derived.Shelf.Strings.Replace
import Derived.Shelf.Strings.SlTrimAscii
import Derived.Test.YtldkdabcdbgpbaaGreatDoorGi
import Derived.Test.YtldkdabcdbgpbaaGreatDoorHc
import Derived.Test.YtldkdabcdbgpbaaGreatDoorHa
import Derived.Test.YtldkdabcdbgpbaaGreatDoorHz
import Derived.Test.YtldkdabcdbgpbaaGreatDoorGg
import Derived.Test.YtldkdabcdbgpbaaGreatDoorHd
import Derived.Test.YtldkdabcdbgpbaaGreatDoorGv
import Derived.Test.YtldkdabcdbgpbaaGreatDoorHe
import Derived.Test.YtldkdabcdbgpbaaGreatDoorHf
import Derived.Shelf.Slices.Delete
import Derived.Shelf.Slices.In.SortNone
import Derived.Shelf.Sort.Plain
namespace Go.Proofs.YtldkdabcdbgpbaaGreatDoor.W
open Go Go.RowKit Go.Pu Go.Gw Go.Proofs Go.Proofs.YtldkdabcdbgpbaaGreatDoor.M
set_option linter.unusedVariables false
set_option linter.unusedSimpArgs false
variable {Dw : Prop}
set_option maxHeartbeats 4000000
set_option maxRecDepth 4000
open Tryz
variable {A : Nat → Prop} {w : World} {b off : Nat}
theorem Tryz_info3 : Tryz.prog.info? 3 = some Tryz.t3 := by kernel_rfl
theorem Tryz_info9 : Tryz.prog.info? 9 = some Tryz.t9 := by kernel_rfl
theorem Tryz_info83 : Tryz.prog.info? 83 = some Tryz.t83 := by kernel_rfl
theorem Tryz_info86 : Tryz.prog.info? 86 = some Tryz.t86 := by kernel_rfl
theorem Tryz_places26 : ∀ fs, Tryz.prog.underlying 26 = some (.struct fs) → ∀ w : World, (Array.mapM (fun (f : Field) => do pure (f.offset, ← Go.sizeOf f.type)) fs).run Tryz.prog w = .ok #[(0, 1), (1, 1), (2, 1)] w := by
  intro fs h w
  rw [Tryz.underlying26] at h
  cases h
  kernel_rfl
theorem Tryz_places83 : ∀ fs, Tryz.prog.underlying 83 = some (.struct fs) → ∀ w : World, (Array.mapM (fun (f : Field) => do pure (f.offset, ← Go.sizeOf f.type)) fs).run Tryz.prog w = .ok #[(0, 1), (1, 1)] w := by
  intro fs h w
  rw [Tryz.underlying83] at h
  cases h
  kernel_rfl
theorem Tryz_places86 : ∀ fs, Tryz.prog.underlying 86 = some (.struct fs) → ∀ w : World, (Array.mapM (fun (f : Field) => do pure (f.offset, ← Go.sizeOf f.type)) fs).run Tryz.prog w = .ok #[(0, 1), (1, 1), (2, 1)] w := by
  intro fs h w
  rw [Tryz.underlying86] at h
  cases h
  kernel_rfl
theorem Tryz_mixed : Tryz.prog.follows .mixedOrders = true := by kernel_rfl
instance : GoT know_Posting := GoT.of (β := Int × (List Int) × (List Int)) fun x => (x.id_, x.title, x.body)
theorem El_know_Posting_ {A : Nat → Prop} {w : World} {b off : Nat} {x : know_Posting} (h : El A w b off x) : El (α := Int × (List Int) × (List Int)) A w b off (x.id_, x.title, x.body) := h
theorem El_know_Posting_0 {A : Nat → Prop} {w : World} {b off : Nat} {x : know_Posting} (h : El A w b off x) : El A w b (off + 0) x.id_ := El.fst (El_know_Posting_ h)
theorem El_know_Posting_1 {A : Nat → Prop} {w : World} {b off : Nat} {x : know_Posting} (h : El A w b off x) : El A w b (off + 1) x.title := El.fst (El.snd (El_know_Posting_ h))
theorem El_know_Posting_2 {A : Nat → Prop} {w : World} {b off : Nat} {x : know_Posting} (h : El A w b off x) : El A w b (off + 2) x.body := El.snd (El.snd (El_know_Posting_ h))
theorem El_know_Posting {A : Nat → Prop} {w : World} {b off : Nat} {x : know_Posting} (h : El A w b off x) : ∃ v1 v3, At w b off [.int .i64 x.id_, v1, v3] ∧ Sl A w v1 x.title ∧ Sl A w v3 x.body := by
  obtain ⟨h1, h2, cs, h3, h4⟩ := h
  obtain ⟨_, _, rfl, rfl, ⟨_, _, rfl, ⟨u1, rfl, g1⟩, ⟨u2, rfl, g2⟩⟩⟩ := h3
  exact ⟨u1, u2, h4, g1, g2⟩
theorem ElR_know_Posting {A : Nat → Prop} {w : World} {b off : Nat} {x : know_Posting} (h : ∃ cs, GoT.rep A w cs x ∧ At w b off cs) : ∃ v1 v3, At w b off [.int .i64 x.id_, v1, v3] ∧ Sl A w v1 x.title ∧ Sl A w v3 x.body := by
  obtain ⟨cs, h3, h4⟩ := h
  obtain ⟨_, _, rfl, rfl, ⟨_, _, rfl, ⟨u1, rfl, g1⟩, ⟨u2, rfl, g2⟩⟩⟩ := h3
  exact ⟨u1, u2, h4, g1, g2⟩
theorem Rep_know_Posting {A : Nat → Prop} {w : World} {cs : List Value} {x : know_Posting} (h : GoT.rep A w cs x) : ∃ v1 v3, cs = [.int .i64 x.id_, v1, v3] ∧ Sl A w v1 x.title ∧ Sl A w v3 x.body := by
  obtain ⟨_, _, rfl, rfl, ⟨_, _, rfl, ⟨u1, rfl, g1⟩, ⟨u2, rfl, g2⟩⟩⟩ := h
  exact ⟨u1, u2, rfl, g1, g2⟩
instance : GoT know_Term := GoT.of (β := ByteArray × (List know_Posting)) fun x => (x.word, x.list_)
theorem El_know_Term_ {A : Nat → Prop} {w : World} {b off : Nat} {x : know_Term} (h : El A w b off x) : El (α := ByteArray × (List know_Posting)) A w b off (x.word, x.list_) := h
theorem El_know_Term_0 {A : Nat → Prop} {w : World} {b off : Nat} {x : know_Term} (h : El A w b off x) : El A w b (off + 0) x.word := El.fst (El_know_Term_ h)
theorem El_know_Term_1 {A : Nat → Prop} {w : World} {b off : Nat} {x : know_Term} (h : El A w b off x) : El A w b (off + 1) x.list_ := El.snd (El_know_Term_ h)
theorem El_know_Term {A : Nat → Prop} {w : World} {b off : Nat} {x : know_Term} (h : El A w b off x) : ∃ v1, At w b off [.string x.word, v1] ∧ Sl A w v1 x.list_ := by
  obtain ⟨h1, h2, cs, h3, h4⟩ := h
  obtain ⟨_, _, rfl, rfl, ⟨u1, rfl, g1⟩⟩ := h3
  exact ⟨u1, h4, g1⟩
theorem ElR_know_Term {A : Nat → Prop} {w : World} {b off : Nat} {x : know_Term} (h : ∃ cs, GoT.rep A w cs x ∧ At w b off cs) : ∃ v1, At w b off [.string x.word, v1] ∧ Sl A w v1 x.list_ := by
  obtain ⟨cs, h3, h4⟩ := h
  obtain ⟨_, _, rfl, rfl, ⟨u1, rfl, g1⟩⟩ := h3
  exact ⟨u1, h4, g1⟩
theorem Rep_know_Term {A : Nat → Prop} {w : World} {cs : List Value} {x : know_Term} (h : GoT.rep A w cs x) : ∃ v1, cs = [.string x.word, v1] ∧ Sl A w v1 x.list_ := by
  obtain ⟨_, _, rfl, rfl, ⟨u1, rfl, g1⟩⟩ := h
  exact ⟨u1, rfl, g1⟩
instance : GoT know_Index := GoT.of (β := (List Int) × (List Int) × (List know_Term)) fun x => (x.ids, x.sizes, x.terms)
theorem El_know_Index_ {A : Nat → Prop} {w : World} {b off : Nat} {x : know_Index} (h : El A w b off x) : El (α := (List Int) × (List Int) × (List know_Term)) A w b off (x.ids, x.sizes, x.terms) := h
theorem El_know_Index_0 {A : Nat → Prop} {w : World} {b off : Nat} {x : know_Index} (h : El A w b off x) : El A w b (off + 0) x.ids := El.fst (El_know_Index_ h)
theorem El_know_Index_1 {A : Nat → Prop} {w : World} {b off : Nat} {x : know_Index} (h : El A w b off x) : El A w b (off + 1) x.sizes := El.fst (El.snd (El_know_Index_ h))
theorem El_know_Index_2 {A : Nat → Prop} {w : World} {b off : Nat} {x : know_Index} (h : El A w b off x) : El A w b (off + 2) x.terms := El.snd (El.snd (El_know_Index_ h))
theorem El_know_Index {A : Nat → Prop} {w : World} {b off : Nat} {x : know_Index} (h : El A w b off x) : ∃ v1 v3 v5, At w b off [v1, v3, v5] ∧ Sl A w v1 x.ids ∧ Sl A w v3 x.sizes ∧ Sl A w v5 x.terms := by
  obtain ⟨h1, h2, cs, h3, h4⟩ := h
  obtain ⟨_, _, rfl, ⟨u1, rfl, g1⟩, ⟨_, _, rfl, ⟨u2, rfl, g2⟩, ⟨u3, rfl, g3⟩⟩⟩ := h3
  exact ⟨u1, u2, u3, h4, g1, g2, g3⟩
instance : GoT know_Entry := GoT.of (β := Int × ByteArray × ByteArray) fun x => (x.id_, x.title, x.body)
instance : Flat know_Entry := ⟨fun {A w A1 w1 cs x} h => Flat.flat (α := Int × ByteArray × ByteArray) (x := (x.id_, x.title, x.body)) (A := A) (w := w) h⟩
theorem El_know_Entry_ {A : Nat → Prop} {w : World} {b off : Nat} {x : know_Entry} (h : El A w b off x) : El (α := Int × ByteArray × ByteArray) A w b off (x.id_, x.title, x.body) := h
theorem El_know_Entry_0 {A : Nat → Prop} {w : World} {b off : Nat} {x : know_Entry} (h : El A w b off x) : El A w b (off + 0) x.id_ := El.fst (El_know_Entry_ h)
theorem El_know_Entry_1 {A : Nat → Prop} {w : World} {b off : Nat} {x : know_Entry} (h : El A w b off x) : El A w b (off + 1) x.title := El.fst (El.snd (El_know_Entry_ h))
theorem El_know_Entry_2 {A : Nat → Prop} {w : World} {b off : Nat} {x : know_Entry} (h : El A w b off x) : El A w b (off + 2) x.body := El.snd (El.snd (El_know_Entry_ h))
theorem El_know_Entry {A : Nat → Prop} {w : World} {b off : Nat} {x : know_Entry} (h : El A w b off x) : At w b off [.int .i64 x.id_, .string x.title, .string x.body] ∧ True := by
  obtain ⟨h1, h2, cs, h3, h4⟩ := h
  obtain ⟨_, _, rfl, rfl, ⟨_, _, rfl, rfl, rfl⟩⟩ := h3
  exact ⟨h4, trivial⟩
abbrev o_9 (v : Value) (l : List ByteArray) : Ob := obS (α := ByteArray) 9 v l
abbrev o_86 (v : Value) (l : List know_Posting) : Ob := obS (α := know_Posting) 86 v l
abbrev o_83 (v : Value) (l : List know_Term) : Ob := obS (α := know_Term) 83 v l
abbrev o_3 (v : Value) (l : List Int) : Ob := obS (α := Int) 3 v l
def Tryz_contains_lay_ren : Go.Shelf.Ren := ⟨fun | 15 => 137 | 17 => 107 | 20 => 170 | n => n, fun | 0 => 0 | 1 => 1 | 2 => 2 | 3 => 3 | 4 => 4 | 5 => 5 | 6 => 6 | 7 => 7 | 8 => 8 | 9 => 9 | 10 => 10 | 11 => 11 | 12 => 12 | 13 => 13 | 14 => 14 | 15 => 15 | 16 => 16 | 17 => 17 | 18 => 18 | 19 => 19 | 20 => 20 | 21 => 21 | 23 => 205 | 24 => 182 | 26 => 228 | 27 => 262 | 28 => 204 | 29 => 265 | 30 => 261 | 31 => 237 | 32 => 238 | 33 => 198 | 34 => 276 | 35 => 191 | 36 => 277 | 37 => 278 | 38 => 279 | 39 => 239 | 40 => 284 | 41 => 285 | 42 => 286 | 43 => 287 | 44 => 288 | 45 => 289 | 46 => 219 | 47 => 290 | 48 => 291 | 49 => 292 | 50 => 264 | 51 => 293 | 52 => 294 | 53 => 295 | 54 => 296 | 55 => 272 | n => n, fun | 0 => 1 | 1 => 2 | n => n⟩
theorem Tryz_contains_lay : Go.Proofs.LaysGw.n17 Tryz.prog Tryz_contains_lay_ren := {
  mixed := by kernel_rfl,
  f15 := Tryz.func137.trans (congrArg some (by kernel_rfl)),
  f17 := Tryz.func107.trans (congrArg some (by kernel_rfl)),
  f20 := Tryz.func170.trans (congrArg some (by kernel_rfl)),
  t0 := Tryz.underlying0,
  a0 := Tryz.isAgg0,
  z0 := Tryz.sizeOf0,
  v0 := Tryz.zeroValue0,
  i0 := by kernel_rfl,
  t3 := Tryz.underlying3,
  a3 := Tryz.isAgg3,
  z3 := Tryz.sizeOf3,
  v3 := Tryz.zeroValue3,
  i3 := by kernel_rfl,
  t4 := Tryz.underlying4,
  a4 := Tryz.isAgg4,
  z4 := Tryz.sizeOf4,
  v4 := Tryz.zeroValue4,
  i4 := by kernel_rfl,
  t9 := Tryz.underlying9,
  a9 := Tryz.isAgg9,
  z9 := Tryz.sizeOf9,
  v9 := Tryz.zeroValue9,
  i9 := by kernel_rfl,
  t21 := Tryz.underlying21,
  a21 := Tryz.isAgg21,
  z21 := Tryz.sizeOf21,
  v21 := Tryz.zeroValue21,
  i21 := by kernel_rfl,
  t23 := Tryz.underlying205,
  a23 := Tryz.isAgg205,
  z23 := Tryz.sizeOf205,
  v23 := Tryz.zeroValue205,
  i23 := by kernel_rfl }
theorem know_within_c (w : World) (n : Int) (low : Int) (high : Int) : Ret prog 64 #[Ii n, Ii low, Ii high] w fun v w' => v = .bool (know_within n low high) ∧ w = w' := by
 generalize hm : know_within n low high = r
 unfold know_within at hm
 refine enter func64 rfl ntmps64 rfl ?_
 refine Sr (As (To ?_))
 refine Sr (Mm (Mm (Vy (Y_geq rfl rfl) (Mm ?_))))
 refine V_cut 4 (fun _ : Unit => [(14, .bool ((decide (low ≤ n)) && (decide (n ≤ high))))]) (fun _ w' => w = w') ?_ ?_
 ·simp only [List.take, List.drop]
  rcases Be (decide (low ≤ n)) with hc1 | hc1
  ·refine Gf hc1 (Mm (Gf hc1 (Mm (Gf hc1 (Vy (Y_leq rfl rfl) (Vy (Y_pick_te rfl hc1 rfl) ?_))))))
   exact V_end fun a ha => ⟨(), ha.sub ⟨(by rw [hc1]; rfl), trivial⟩, rfl⟩
  refine Gm hc1 (Gm hc1 (Gm hc1 (Vy (Y_pick_fe rfl hc1 rfl) ?_)))
  exact V_end fun a ha => ⟨(), ha.sub ⟨(by rw [hc1]; rfl), trivial⟩, rfl⟩
 simp only [List.take, List.drop]
 rintro _ _ rfl
 refine As (To ?_)
 obtain rfl := hm
 refine Rt (Res.one results64 rfl) ?_
 exact ⟨rfl, rfl⟩
theorem know_digit_c (w : World) (c : Int) : Ret prog 136 #[.int .u8 c] w fun v w' => v = .bool (know_digit c) ∧ w = w' := by
 generalize hm : know_digit c = r
 unfold know_digit at hm
 refine enter func136 rfl ntmps136 rfl ?_
 refine Sr (As (To ?_))
 refine Sr (Mm (Vy (Y_geq rfl rfl) (Mm ?_)))
 refine V_cut 3 (fun _ : Unit => [(8, .bool ((decide ((48 : Int) ≤ c)) && (decide (c ≤ 57))))]) (fun _ w' => w = w') ?_ ?_
 ·simp only [List.take, List.drop]
  rcases Be (decide ((48 : Int) ≤ c)) with hc1 | hc1
  ·refine Gf hc1 (Mm (Gf hc1 (Vy (Y_leq rfl rfl) (Vy (Y_pick_te rfl hc1 rfl) ?_))))
   exact V_end fun a ha => ⟨(), ha.sub ⟨(by rw [hc1]; rfl), trivial⟩, rfl⟩
  refine Gm hc1 (Gm hc1 (Vy (Y_pick_fe rfl hc1 rfl) ?_))
  exact V_end fun a ha => ⟨(), ha.sub ⟨(by rw [hc1]; rfl), trivial⟩, rfl⟩
 simp only [List.take, List.drop]
 rintro _ _ rfl
 refine As (To ?_)
 obtain rfl := hm
 refine Rt (Res.one results136 rfl) ?_
 exact ⟨rfl, rfl⟩
theorem know_letter_c (w : World) (c : Int) : Ret prog 135 #[.int .u8 c] w fun v w' => v = .bool (know_letter c) ∧ w = w' := by
 generalize hm : know_letter c = r
 unfold know_letter at hm
 refine enter func135 rfl ntmps135 rfl ?_
 refine Sr (As (To ?_))
 refine Sr (Mm (Vy (Y_geq rfl rfl) (Mm ?_)))
 refine V_cut 3 (fun _ : Unit => [(0, .int .u8 c), (8, .bool ((decide ((97 : Int) ≤ c)) && (decide (c ≤ 122))))]) (fun _ w' => w = w') ?_ ?_
 ·simp only [List.take, List.drop]
  rcases Be (decide ((97 : Int) ≤ c)) with hc1 | hc1
  ·refine Gf hc1 (Mm (Gf hc1 (Vy (Y_leq rfl rfl) (Vy (Y_pick_te rfl hc1 rfl) ?_))))
   exact V_end fun a ha => ⟨(), ha.sub ⟨rfl, (by rw [hc1]; rfl), trivial⟩, rfl⟩
  refine Gm hc1 (Gm hc1 (Vy (Y_pick_fe rfl hc1 rfl) ?_))
  exact V_end fun a ha => ⟨(), ha.sub ⟨rfl, (by rw [hc1]; rfl), trivial⟩, rfl⟩
 simp only [List.take, List.drop]
 rintro _ _ rfl
 refine Mm ?_
 refine V_cut 7 (fun _ : Unit => [(16, .bool (((decide ((97 : Int) ≤ c)) && (decide (c ≤ 122))) || ((decide ((65 : Int) ≤ c)) && (decide (c ≤ 90)))))]) (fun _ w' => w = w') ?_ ?_
 ·simp only [List.take, List.drop]
  rcases Be (((decide ((97 : Int) ≤ c)) && (decide (c ≤ 122)))) with hc3 | hc3
  ·refine Gm hc3 (Gm hc3 (Gm hc3 ?_))
   refine V_gu rfl rfl rfl rfl rfl ?_
   refine V_gu rfl rfl rfl rfl rfl ?_
   refine Gm hc3 (Vy (Y_pick_te rfl hc3 rfl) ?_)
   exact V_end fun a ha => ⟨(), ha.sub ⟨(by rw [hc3]; rfl), trivial⟩, rfl⟩
  refine Gf hc3 (Mm (Gf hc3 (Vy (Y_geq rfl rfl) (Gf hc3 (Mm ?_)))))
  refine V_cut 3 (fun _ : Unit => [(9, .bool ((decide ((97 : Int) ≤ c)) && (decide (c ≤ 122)))), (15, .bool ((decide ((65 : Int) ≤ c)) && (decide (c ≤ 90))))]) (fun _ w' => w = w') ?_ ?_
  ·simp only [List.take, List.drop]
   rcases Be (decide ((65 : Int) ≤ c)) with hc5 | hc5
   ·refine Gf hc5 (Mm (Gf hc5 (Vy (Y_leq rfl rfl) (Gf hc3 (Vy (Y_pick_te rfl hc5 rfl) ?_)))))
    exact V_end fun a ha => ⟨(), ha.sub ⟨rfl, (by rw [hc5]; rfl), trivial⟩, rfl⟩
   refine Gm hc5 (Gm hc5 (Gf hc3 (Vy (Y_pick_fe rfl hc5 rfl) ?_)))
   exact V_end fun a ha => ⟨(), ha.sub ⟨rfl, (by rw [hc5]; rfl), trivial⟩, rfl⟩
  simp only [List.take, List.drop]
  rintro _ _ rfl
  refine Vy (Y_pick_fe rfl hc3 rfl) ?_
  exact V_end fun a ha => ⟨(), ha.sub ⟨(by rw [hc3]; rfl), trivial⟩, rfl⟩
 simp only [List.take, List.drop]
 rintro _ _ rfl
 refine As (To ?_)
 obtain rfl := hm
 refine Rt (Res.one results135 rfl) ?_
 exact ⟨rfl, rfl⟩
theorem know_inWord_c (w : World) (c : Int) : Ret prog 97 #[.int .u8 c] w fun v w' => v = .bool (know_inWord c) ∧ w = w' := by
 generalize hm : know_inWord c = r
 unfold know_inWord at hm
 refine enter func97 rfl ntmps97 rfl ?_
 refine Sr (As (To ?_))
 refine Sr (Mm ?_)
 refine Vc call135 (know_letter_c w c) ?_
 rintro _ _ ⟨rfl, rfl⟩
 refine Mm ?_
 refine V_cut 3 (fun _ : Unit => [(0, .int .u8 c), (8, .bool ((know_letter c) || (know_digit c)))]) (fun _ w' => w = w') ?_ ?_
 ·simp only [List.take, List.drop]
  rcases Be ((know_letter c)) with hc1 | hc1
  ·refine Gm hc1 (Gm hc1 (Vy (Y_pick_te rfl hc1 rfl) ?_))
   exact V_end fun a ha => ⟨(), ha.sub ⟨rfl, (by rw [hc1]; rfl), trivial⟩, rfl⟩
  refine Gf hc1 (Mm (Gf hc1 ?_))
  refine Vc call136 (know_digit_c w c) ?_
  rintro _ _ ⟨rfl, rfl⟩
  refine Vy (Y_pick_fe rfl hc1 rfl) ?_
  exact V_end fun a ha => ⟨(), ha.sub ⟨rfl, (by rw [hc1]; rfl), trivial⟩, rfl⟩
 simp only [List.take, List.drop]
 rintro _ _ rfl
 refine Mm ?_
 refine V_cut 3 (fun _ : Unit => [(12, .bool (((know_letter c) || (know_digit c)) || (decide ((128 : Int) ≤ c))))]) (fun _ w' => w = w') ?_ ?_
 ·simp only [List.take, List.drop]
  rcases Be (((know_letter c) || (know_digit c))) with hc3 | hc3
  ·refine Gm hc3 (Gm hc3 (Vy (Y_pick_te rfl hc3 rfl) ?_))
   exact V_end fun a ha => ⟨(), ha.sub ⟨(by rw [hc3]; rfl), trivial⟩, rfl⟩
  refine Gf hc3 (Mm (Gf hc3 (Vy (Y_geq rfl rfl) (Vy (Y_pick_fe rfl hc3 rfl) ?_))))
  exact V_end fun a ha => ⟨(), ha.sub ⟨(by rw [hc3]; rfl), trivial⟩, rfl⟩
 simp only [List.take, List.drop]
 rintro _ _ rfl
 refine As (To ?_)
 obtain rfl := hm
 refine Rt (Res.one results97 rfl) ?_
 exact ⟨rfl, rfl⟩
theorem know_lower_c (w : World) {A : Nat → Prop} (hA : ∀ b, w.heap.size ≤ b → A b) (s : ByteArray) {r : ByteArray} (hm : know_lower s = some r) : Ret prog 98 #[.string s] w fun v w' => v = .string r ∧ Kp Dw w w' := by
 unfold know_lower at hm
 refine enter func98 rfl ntmps98 rfl ?_
 have hA0 := hA
 obtain ⟨hB, hK, hH⟩ := St (Dw := Dw) hA
 refine Sr (As (To ?_))
 refine Sr (Mm ?_)
 obtain ⟨x1, hx1, hm⟩ := Bs hm
 refine V_convU (Dw := Dw) (e := 5) hH hx1 underlying9 underlying227 underlying5 hB hA rfl rfl ?_
 intro v2 w3 A4 hH5 ht6
 replace hK := Tt hK ht6; replace hB := Bx hB ht6; replace hA := ht6.new
 replace hH : Hp _ _ _ (obU 5 v2 x1 :: []) := hH5
 refine As (To ?_)
 refine C_seq (Sr (Mm (Vy (Y_lenSl (Hp.anyU (e := 5) (v := v2) (l := x1) hH (i := 0) rfl) rfl underlying227 rfl) (Mm (To ?_)))))
 have hn31 := Hp.leU (e := 5) (v := v2) (l := x1) hH (i := 0) rfl
 obtain ⟨o7, ho7, hm⟩ := Bs hm
 refine C_cutG (ι := ((List UInt8) × Value × (Nat → Prop))) (fun ⟨s8, v14, A16⟩ => [(3, v14)]) (fun ⟨s8, v14, A16⟩ => fun w' => o7 = .fin s8 ∧ Hp w.heap.size A16 w' (obU 5 v14 s8 :: []) ∧ Tr Dw w.heap.size A4 w3 A16 w') ?_ ?_
 ·refine C_block ?_
  refine C_range ho7 (fun k10 s18 a w' => ∃ i : (Value × (Nat → Prop)), Has ⟨30, [], none⟩ a ([(3, i.1), (8, i.1), (9, Ii (x1.length : Int)), (10, Ii (k10 : Int))]) ∧ Hp w.heap.size i.2 w' (obU 5 i.1 s18 :: []) ∧ Tr Dw w.heap.size A4 w3 i.2 w') (fun a ha => ⟨(v2, A4), ha.sb, ⟨hH, Tr.refl (Dw := Dw) hA⟩⟩) ?_
  rintro K k10 s18 a w19 ⟨⟨v20, A22⟩, ha74, hH23, hr9⟩ hle27 K30 h29
  refine C_of ?_ ha74
  replace hB := Bx hB hr9; replace hA := hr9.new
  replace hH : Hp _ _ _ (obU 5 v20 s18 :: []) := hH23
  refine Sr (Vy (Y_lss rfl rfl) (To ?_))
  refine C_seq ?_
  refine Cc (fun hc32 => ?_) fun hc32 => ?_
  ·have hlt28 := lt_of_dec hc32
   obtain ⟨x24, h25, h26⟩ := K30 hlt28
   refine Sk ?_
   refine C_seq ?_
   obtain ⟨s34, ho33, h25⟩ := Bs h25
   refine C_cutG (ι := (Value × (Nat → Prop))) (fun ⟨v36, A41⟩ => [(3, v36), (8, v36), (9, Ii (x1.length : Int)), (10, Ii (k10 : Int))]) (fun ⟨v36, A41⟩ => fun w' => Hp w.heap.size A41 w' (obU 5 v36 s34 :: []) ∧ Tr Dw w.heap.size A22 w19 A41 w') ?_ ?_
   ·have hr35 : Tr Dw w.heap.size A22 w19 A22 w19 := Tr.refl (Dw := Dw) hA
    refine C_block (Sr (Mm ?_))
    obtain ⟨x43, hx43, ho33⟩ := Bs ho33
    refine V_indexAddrU (e := 5) (v := v20) (l := s18) hH (i := 0) rfl hx43 underlying227 sizeOf5 rfl rfl rfl ?_
    intro b44 o45 h46 hl47
    refine Ld (El.u8 h46) isAgg5 (As (As (To ?_)))
    refine Sr (Mm (Vy (Y_geq rfl rfl) (Mm ?_)))
    refine V_cut 3 (fun _ : Unit => [(3, v20), (4, Ii (k10 : Int)), (5, .int .u8 (x43.toNat : Int)), (8, v20), (9, Ii (x1.length : Int)), (10, Ii (k10 : Int)), (20, .bool ((decide ((65 : Int) ≤ (x43.toNat : Int))) && (decide ((x43.toNat : Int) ≤ 90))))]) (fun _ w' => w19 = w') ?_ ?_
    ·simp only [List.take, List.drop]
     rcases Be (decide ((65 : Int) ≤ (x43.toNat : Int))) with hc48 | hc48
     ·refine Gf hc48 (Mm (Gf hc48 (Vy (Y_leq rfl rfl) (Vy (Y_pick_te rfl hc48 rfl) ?_))))
      exact V_end fun a ha => ⟨(), ha.sub ⟨rfl, rfl, rfl, rfl, rfl, rfl, (by rw [hc48]; rfl), trivial⟩, rfl⟩
     refine Gm hc48 (Gm hc48 (Vy (Y_pick_fe rfl hc48 rfl) ?_))
     exact V_end fun a ha => ⟨(), ha.sub ⟨rfl, rfl, rfl, rfl, rfl, rfl, (by rw [hc48]; rfl), trivial⟩, rfl⟩
    simp only [List.take, List.drop]
    rintro _ _ rfl
    refine To ?_
    obtain ⟨s51, ho50, ho33⟩ := Bs ho33
    refine C_cutG (ι := (Value × (Nat → Prop))) (fun ⟨v53, A58⟩ => [(3, v53), (8, v53), (9, Ii (x1.length : Int)), (10, Ii (k10 : Int))]) (fun ⟨v53, A58⟩ => fun w' => Hp w.heap.size A58 w' (obU 5 v53 s51 :: []) ∧ Tr Dw w.heap.size A22 w19 A58 w') ?_ ?_
    ·have hr52 : Tr Dw w.heap.size A22 w19 A22 w19 := Tr.refl (Dw := Dw) hA
     refine Cc (fun hc60 => ?_) fun hc60 => ?_
     ·rw [if_pos hc60] at ho50
      refine C_region (Mm (Mm (Mm (Vy (Y_addB rfl rfl) (Vy (Y_subB rfl rfl) ?_)))))
      refine V_indexAddrU (e := 5) (v := v20) (l := s18) hH (i := 0) rfl hx43 underlying227 sizeOf5 rfl rfl rfl ?_
      intro b61 o62 h63 hl64
      obtain ⟨x65, hx65, ho50⟩ := Bs ho50
      refine V_storeU (Dw := Dw) (e := 5) (v := v20) (l := s18) hH (i := 0) rfl hl64 hx65 rfl sizeOf5 rfl hB hA rfl rfl ?_
      intro w66 hH67 ht68
      replace hr52 := Tt hr52 ht68
      replace hH : Hp _ _ _ (obU 5 v20 x65 :: []) := hH67
      obtain rfl := Oi ho50
      refine V_end (fun a ha69 => ?_)
      exact ⟨(v20, A22), ha69.sb, ⟨hH, hr52⟩⟩
     rw [if_neg (nt hc60)] at ho50
     obtain rfl := Oi ho50
     refine C_skip (fun a ha70 => ?_)
     exact ⟨(v20, A22), ha70.sb, ⟨hH, hr52⟩⟩
    rintro ⟨v53, A58⟩ w55 ⟨hH59, hk56⟩ a ha57
    replace hr35 := Tr.trans hr35 hk56; replace hA := hk56.new
    replace hH : Hp _ _ _ (obU 5 v53 s51 :: []) := hH59
    obtain rfl := Oi ho33
    exact ⟨(v53, A58), ha57.sb, ⟨hH, hr35⟩⟩
   rintro ⟨v36, A41⟩ w38 ⟨hH42, hk39⟩ a ha40
   replace hr9 := Tr.trans hr9 hk39; replace hA := hk39.new
   replace hH : Hp _ _ _ (obU 5 v36 s34 :: []) := hH42
   refine C_at (n := ⟨30, [], none⟩) (fun _ _ => rfl) ?_ ha40
   refine C_region (Vy (Y_addI rfl rfl) (Mm ?_))
   obtain rfl := Oi h25
   refine V_end (fun a ha72 => ?_)
   exact ⟨s34, hlt28, h26, ⟨(v36, A41), ha72.sub ⟨rfl, rfl, rfl, Ws hlt28 hn31, trivial⟩, ⟨hH, hr9⟩⟩⟩
  refine C_exit (fun a ha73 => ?_)
  exact ⟨(s18, v20, A22), ha73.sb, ⟨(h29 (eq_of_dec hle27 hc32)).symm, hH, hr9⟩⟩
 rintro ⟨s8, v14, A16⟩ w11 ⟨rfl, hH17, hk12⟩ a ha13
 rw [Lp.andThen_fin] at hm
 replace hK := Tr.trans hK hk12; replace hA := hk12.new
 replace hH : Hp _ _ _ (obU 5 v14 s8 :: []) := hH17
 refine C_at (n := ⟨30, [], none⟩) (fun _ _ => rfl) ?_ ha13
 refine Sr (Mm ?_)
 obtain ⟨A75, ht76, h77, hH78⟩ := Hp.freezeU (Dw := Dw) (v := v14) (l := s8) hH (i := 0) rfl hA
 replace hK := Tt hK ht76; replace hH := hH78
 refine Vy (Y_convBS (l := s8) h77 underlying227 underlying5 underlying9 rfl) (As (To ?_))
 obtain rfl := Oi hm
 refine Rt (Res.one results98 rfl) ?_
 exact ⟨rfl, hK.kp⟩
theorem know_Words_c (w : World) {A : Nat → Prop} (hA : ∀ b, w.heap.size ≤ b → A b) (s : ByteArray) {r : (List ByteArray)} (hm : know_Words s = some r) : Ret prog 65 #[.string s] w fun v w' => ∃ s0, v = s0 ∧ Ownd 9 w w' s0 r ∧ Kp Dw w w' := by
 unfold know_Words at hm
 refine enter func65 rfl ntmps65 rfl ?_
 have hA0 := hA
 obtain ⟨hB, hK, hH⟩ := St (Dw := Dw) hA
 refine Sr (As (To ?_))
 refine Sr (As (To ?_))
 refine C_seq (Sr (As (To ?_)))
 replace hH : Hp w.heap.size A w (o_9 (.slice none 0 0) ([] : (List ByteArray)) :: []) := Hp.addNil (α := ByteArray) (e := 9) hH
 obtain ⟨o1, ho1, hm⟩ := Bs hm
 refine C_cutG (ι := (((List ByteArray) × Int) × Value × (Nat → Prop))) (fun ⟨s2, v8, A10⟩ => [(3, v8)]) (fun ⟨s2, v8, A10⟩ => fun w' => o1 = .fin s2 ∧ Hp w.heap.size A10 w' (o_9 v8 s2.1 :: []) ∧ Tr Dw w.heap.size A w A10 w') ?_ ?_
 ·refine C_block ?_
  refine C_while ho1 (fun s12 a w' => ∃ i : (Value × (Nat → Prop)), Has ⟨44, [], none⟩ a ([(0, .string s), (3, i.1), (4, Ii s12.2)]) ∧ Hp w.heap.size i.2 w' (o_9 i.1 s12.1 :: []) ∧ Tr Dw w.heap.size A w i.2 w') (fun a ha => ⟨(.slice none 0 0, A), ha.sb, ⟨hH, Tr.refl (Dw := Dw) hA⟩⟩) ?_
  rintro K s12 a w13 ⟨⟨v14, A16⟩, ha83, hH17, hr3⟩ K24
  refine C_of ?_ ha83
  replace hB := Bx hB hr3; replace hA := hr3.new
  replace hH : Hp _ _ _ (o_9 v14 s12.1 :: []) := hH17
  obtain ⟨x18, h19, h20⟩ := K24
  refine C_seq (Sr (Mm (Mm (Vy (Y_lenStr rfl underlying9 rfl) (Vy (Y_lss rfl rfl) (To ?_))))))
  refine Cc (fun hc25 => ?_) fun hc25 => ?_
  ·rw [if_pos hc25] at h19
   refine Sk ?_
   refine C_seq (C_block (Sr (Mm (As (To ?_)))))
   refine C_seq ?_
   obtain ⟨o26, ho26, h19⟩ := Bs h19
   refine C_cutG (ι := Int) (fun (s27 : Int) => [(0, .string s), (3, v14), (4, Ii s12.2), (5, Ii s27)]) (fun (s27 : Int) => fun w' => o26 = .fin s27 ∧ w13 = w') ?_ ?_
   ·refine C_block ?_
    refine C_while ho26 (fun s33 a w' => ∃ i : Unit, Has ⟨44, [], none⟩ a ([(0, .string s), (3, v14), (4, Ii s12.2), (5, Ii s33)]) ∧ w13 = w') (fun a ha => ⟨(), ha.sb, rfl⟩) ?_
    rintro K s33 a _ ⟨_, ha48, rfl⟩ K41
    refine C_of ?_ ha48
    obtain ⟨x35, h36, h37⟩ := K41
    refine C_seq (Sr (Mm (Mm (Vy (Y_lenStr rfl underlying9 rfl) (Vy (Y_lss rfl rfl) (Mm ?_))))))
    obtain ⟨s43, hs43, h36⟩ := Bs h36
    refine V_cut 5 (fun _ : Unit => [(0, .string s), (3, v14), (4, Ii s12.2), (5, Ii s33), (22, .bool s43)]) (fun _ w' => w13 = w') ?_ ?_
    ·simp only [List.take, List.drop]
     rcases Be (decide (s33 < (s.size : Int))) with hc42 | hc42
     ·rw [if_pos hc42] at hs43
      refine Gf hc42 (Mm (Gf hc42 (Mm (Gf hc42 ?_))))
      obtain ⟨x44, hx44, hs43⟩ := Bs hs43
      refine Vy (Y_indexS hx44 underlying9 rfl rfl) (Gf hc42 ?_)
      refine Vc call97 (know_inWord_c w13 (x44.toNat : Int)) ?_
      rintro _ _ ⟨rfl, rfl⟩
      refine Vy (Y_pick_te rfl hc42 rfl) ?_
      obtain rfl := Oi hs43
      exact V_end fun a ha => ⟨(), ha.sb, rfl⟩
     rw [if_neg (nt hc42)] at hs43
     refine Gm hc42 (Gm hc42 (Gm hc42 (Gm hc42 (Vy (Y_pick_fe rfl hc42 rfl) ?_))))
     obtain rfl := Oi hs43
     exact V_end fun a ha => ⟨(), ha.sb, rfl⟩
    simp only [List.take, List.drop]
    rintro _ _ rfl
    refine To ?_
    refine Cc (fun hc45 => ?_) fun hc45 => ?_
    ·rw [if_pos hc45] at h36
     refine Sk ?_
     refine C_block (C_region (Mm (Vy (Y_addI rfl rfl) (As ?_))))
     obtain rfl := Oi h36
     refine V_end (fun a ha46 => ?_)
     exact ⟨w64 (s33 + 1), h37, ⟨(), ha46.sb, rfl⟩⟩
    rw [if_neg (nt hc45)] at h36
    obtain rfl := Oi h36
    refine C_exit (fun a ha47 => ?_)
    exact ⟨s33, ha47.sb, ⟨h37.symm, rfl⟩⟩
   rintro s27 _ ⟨rfl, rfl⟩ a ha32
   rw [Lp.andThen_fin] at h19
   refine C_at (n := ⟨44, [], none⟩) (fun _ _ => rfl) ?_ ha32
   refine C_seq (Sr (Mm (Mm (Vy (Y_gtr rfl rfl) (Mm ?_)))))
   refine V_cut 5 (fun _ : Unit => [(0, .string s), (3, v14), (4, Ii s12.2), (5, Ii s27), (33, .bool ((decide (s12.2 < s27)) && (decide ((w64 (s27 - s12.2)) ≤ 30))))]) (fun _ w' => w13 = w') ?_ ?_
   ·simp only [List.take, List.drop]
    rcases Be (decide (s12.2 < s27)) with hc49 | hc49
    ·refine Gf hc49 (Mm (Gf hc49 (Mm (Gf hc49 (Vy (Y_subI rfl rfl) (Gf hc49 (Vy (Y_leq rfl rfl) (Vy (Y_pick_te rfl hc49 rfl) ?_))))))))
     exact V_end fun a ha => ⟨(), ha.sub ⟨rfl, rfl, rfl, rfl, (by rw [hc49]; rfl), trivial⟩, rfl⟩
    refine Gm hc49 (Gm hc49 (Gm hc49 (Gm hc49 (Vy (Y_pick_fe rfl hc49 rfl) ?_))))
    exact V_end fun a ha => ⟨(), ha.sub ⟨rfl, rfl, rfl, rfl, (by rw [hc49]; rfl), trivial⟩, rfl⟩
   simp only [List.take, List.drop]
   rintro _ _ rfl
   refine To ?_
   obtain ⟨s52, ho51, h19⟩ := Bs h19
   refine C_cutG (ι := (Value × (Nat → Prop))) (fun ⟨v54, A59⟩ => [(0, .string s), (3, v54), (5, Ii s27)]) (fun ⟨v54, A59⟩ => fun w' => Hp w.heap.size A59 w' (o_9 v54 s52 :: []) ∧ Tr Dw w.heap.size A16 w13 A59 w') ?_ ?_
   ·have hr53 : Tr Dw w.heap.size A16 w13 A16 w13 := Tr.refl (Dw := Dw) hA
    refine Cc (fun hc61 => ?_) fun hc61 => ?_
    ·rw [if_pos hc61] at ho51
     refine C_region (Mm (Mm (Mm (Mm ?_))))
     obtain ⟨x62, hx62, ho51⟩ := Bs ho51
     refine Vy (Y_sliceSLH hx62 underlying9 rfl rfl rfl) ?_
     obtain ⟨x63, hx63, ho51⟩ := Bs ho51
     refine Vc call98 (know_lower_c (Dw := Dw) w13 hA x62 hx63) ?_
     rintro _ w65 ⟨rfl, hk66⟩
     have ht67 := Kp.tr hk66 hA hB; replace hH := Hp.kp hH hk66; replace hr53 := Tt hr53 ht67; replace hB := Bx hB ht67; replace hA := ht67.new
     refine V_buildSlice (Dw := Dw) (l := ([x63] : List ByteArray)) (len := 1) underlying73 sizeOf9 zeroValue9 rfl (by with_unfolding_all rfl) (show (1 * 1 : Nat) ≠ 0 by decide) (show (1 * 1 : Nat) ≤ 2 ^ 24 by decide) hA ⟨[.string x63], _, rfl, rfl, rfl⟩ rfl rfl ?_
     intro v68 w69 hk71 h70
     have ht72 := Kp.tr hk71 hA hB; replace hH := Hp.kp hH hk71; replace hr53 := Tt hr53 ht72; replace hB := Bx hB ht72; replace hA := ht72.new
     obtain ⟨x73, hx73, ho51⟩ := Bs ho51
     refine V_appendH (Dw := Dw) (e := 9) (v := v14) (l := s12.1) (ti := t9) (bytes := 16) (lim := 8796093022208) hH (i := 0) rfl h70 hx73 underlying73 Tryz_info9 rfl rfl rfl rfl (by decide) (by decide) (by decide) hB hA rfl rfl rfl ?_
     intro v74 w75 A76 hH77 ht78
     replace hr53 := Tt hr53 ht78
     replace hH : Hp _ _ _ (o_9 v74 x73 :: []) := hH77
     refine As ?_
     obtain rfl := Oi ho51
     refine V_end (fun a ha79 => ?_)
     exact ⟨(v74, A76), ha79.sb, ⟨hH, hr53⟩⟩
    rw [if_neg (nt hc61)] at ho51
    obtain rfl := Oi ho51
    refine C_skip (fun a ha80 => ?_)
    exact ⟨(v14, A16), ha80.sb, ⟨hH, hr53⟩⟩
   rintro ⟨v54, A59⟩ w56 ⟨hH60, hk57⟩ a ha58
   replace hr3 := Tr.trans hr3 hk57; replace hA := hk57.new
   replace hH : Hp _ _ _ (o_9 v54 s52 :: []) := hH60
   refine C_at (n := ⟨44, [], none⟩) (fun _ _ => rfl) ?_ ha58
   refine C_region (Mm (As (To ?_)))
   refine C_region (Mm (Vy (Y_addI rfl rfl) (As ?_)))
   obtain rfl := Oi h19
   refine V_end (fun a ha81 => ?_)
   exact ⟨(s52, w64 (s27 + 1)), h20, ⟨(v54, A59), ha81.sb, ⟨hH, hr3⟩⟩⟩
  rw [if_neg (nt hc25)] at h19
  obtain rfl := Oi h19
  refine C_exit (fun a ha82 => ?_)
  exact ⟨((s12.1, s12.2), v14, A16), ha82.sb, ⟨h20.symm, hH, hr3⟩⟩
 rintro ⟨s2, v8, A10⟩ w5 ⟨rfl, hH11, hk6⟩ a ha7
 rw [Lp.andThen_fin] at hm
 replace hK := Tr.trans hK hk6; replace hA := hk6.new
 replace hH : Hp _ _ _ (o_9 v8 s2.1 :: []) := hH11
 refine C_at (n := ⟨44, [], none⟩) (fun _ _ => rfl) ?_ ha7
 refine Sr (Mm (As (To ?_)))
 obtain rfl := Oi hm
 refine Rt (Res.one results65 rfl) ?_
 exact ⟨v8, rfl, (Hp.ownd hH (i := 0) rfl), hK.kp⟩
theorem cmp_isNaN_int_c (w : World) (x : Int) : Ret prog 94 #[Ii x] w fun v w' => v = .bool (cmp_isNaN_int x) ∧ w = w' := by
 generalize hm : cmp_isNaN_int x = r
 unfold cmp_isNaN_int at hm
 refine enter func94 rfl ntmps94 rfl ?_
 refine Sr (As (To ?_))
 refine Sr (Mm (Mm (Vy (Y_neq rfl rfl) (As (To ?_)))))
 obtain rfl := hm
 refine Rt (Res.one results94 rfl) ?_
 exact ⟨rfl, rfl⟩
theorem cmp_Less_int_c (w : World) (x : Int) (y : Int) : Ret prog 88 #[Ii x, Ii y] w fun v w' => v = .bool (cmp_Less_int x y) ∧ w = w' := by
 generalize hm : cmp_Less_int x y = r
 unfold cmp_Less_int at hm
 refine enter func88 rfl ntmps88 rfl ?_
 refine Sr (As (To ?_))
 refine Sr (Mm ?_)
 refine Vc call94 (cmp_isNaN_int_c w x) ?_
 rintro _ _ ⟨rfl, rfl⟩
 refine Mm ?_
 refine V_cut 4 (fun _ : Unit => [(0, Ii x), (1, Ii y), (11, .bool ((cmp_isNaN_int x) && (!(cmp_isNaN_int y))))]) (fun _ w' => w = w') ?_ ?_
 ·simp only [List.take, List.drop]
  rcases Be ((cmp_isNaN_int x)) with hc1 | hc1
  ·refine Gf hc1 (Mm (Gf hc1 ?_))
   refine Vc call94 (cmp_isNaN_int_c w y) ?_
   rintro _ _ ⟨rfl, rfl⟩
   refine Gf hc1 (Vy (Y_not rfl) (Vy (Y_pick_te rfl hc1 rfl) ?_))
   exact V_end fun a ha => ⟨(), ha.sub ⟨rfl, rfl, (by rw [hc1]; rfl), trivial⟩, rfl⟩
  refine Gm hc1 (Gm hc1 (Gm hc1 (Vy (Y_pick_fe rfl hc1 rfl) ?_)))
  exact V_end fun a ha => ⟨(), ha.sub ⟨rfl, rfl, (by rw [hc1]; rfl), trivial⟩, rfl⟩
 simp only [List.take, List.drop]
 rintro _ _ rfl
 refine Mm ?_
 refine V_cut 4 (fun _ : Unit => [(16, .bool (((cmp_isNaN_int x) && (!(cmp_isNaN_int y))) || (decide (x < y))))]) (fun _ w' => w = w') ?_ ?_
 ·simp only [List.take, List.drop]
  rcases Be (((cmp_isNaN_int x) && (!(cmp_isNaN_int y)))) with hc3 | hc3
  ·refine Gm hc3 (Gm hc3 (Gm hc3 (Vy (Y_pick_te rfl hc3 rfl) ?_)))
   exact V_end fun a ha => ⟨(), ha.sub ⟨(by rw [hc3]; rfl), trivial⟩, rfl⟩
  refine Gf hc3 (Mm (Gf hc3 (Mm (Gf hc3 (Vy (Y_lss rfl rfl) (Vy (Y_pick_fe rfl hc3 rfl) ?_))))))
  exact V_end fun a ha => ⟨(), ha.sub ⟨(by rw [hc3]; rfl), trivial⟩, rfl⟩
 simp only [List.take, List.drop]
 rintro _ _ rfl
 refine As (To ?_)
 obtain rfl := hm
 refine Rt (Res.one results88 rfl) ?_
 exact ⟨rfl, rfl⟩
theorem slices_isNaN_int_c (w : World) (x : Int) : Ret prog 89 #[Ii x] w fun v w' => v = .bool (slices_isNaN_int x) ∧ w = w' := by
 generalize hm : slices_isNaN_int x = r
 unfold slices_isNaN_int at hm
 refine enter func89 rfl ntmps89 rfl ?_
 refine Sr (As (To ?_))
 refine Sr (Mm (Mm (Vy (Y_neq rfl rfl) (As (To ?_)))))
 obtain rfl := hm
 refine Rt (Res.one results89 rfl) ?_
 exact ⟨rfl, rfl⟩
theorem slices_BinarySearch_Lint_int_c (w : World) {A : Nat → Prop} (x : (List Int)) (v_x : Value) (h_x : Sl A w v_x x) (target : Int) {r : (Int × Bool)} (hm : slices_BinarySearch_Lint_int x target = some r) : Ret prog 52 #[v_x, Ii target] w fun v w' => v = .tuple #[Ii r.1, .bool r.2] ∧ w = w' := by
 unfold slices_BinarySearch_Lint_int at hm
 refine enter func52 rfl ntmps52 rfl ?_
 refine Sr (As (As (To ?_)))
 refine Sr (Mm (Vy (Y_lenSl h_x rfl underlying23 rfl) (As (To ?_))))
 refine Sr (Mm (As (As (To ?_))))
 refine C_seq ?_
 obtain ⟨o3, ho3, hm⟩ := Bs hm
 refine C_cutG (ι := (Int × Int)) (fun (s4 : (Int × Int)) => [(0, v_x), (1, Ii target), (6, Ii (x.length : Int)), (7, Ii s4.1)]) (fun (s4 : (Int × Int)) => fun w' => o3 = .fin s4 ∧ w = w') ?_ ?_
 ·refine C_block ?_
  refine C_while ho3 (fun s10 a w' => ∃ i : Unit, Has ⟨54, [], none⟩ a ([(0, v_x), (1, Ii target), (6, Ii (x.length : Int)), (7, Ii s10.1), (8, Ii s10.2)]) ∧ w = w') (fun a ha => ⟨(), ha.sb, rfl⟩) ?_
  rintro K s10 a _ ⟨_, ha43, rfl⟩ K18
  refine C_of ?_ ha43
  obtain ⟨x12, h13, h14⟩ := K18
  refine C_seq (Sr (Mm (Mm (Vy (Y_lss rfl rfl) (To ?_)))))
  refine Cc (fun hc19 => ?_) fun hc19 => ?_
  ·rw [if_pos hc19] at h13
   refine Sk ?_
   obtain ⟨s21, ho20, h13⟩ := Bs h13
   refine C_cutG (ι := Unit) (fun (_ : Unit) => [(0, v_x), (1, Ii target), (6, Ii (x.length : Int)), (7, Ii s21.1), (8, Ii s21.2)]) (fun (_ : Unit) => fun w' => w = w') ?_ ?_
   ·refine C_block (Sr (Mm (Mm (Vy (Y_addI rfl rfl) (Vy (Y_convI underlying3 underlying191 rfl) ?_)))))
    obtain ⟨x26, hx26, ho20⟩ := Bs ho20
    refine Vy (Y_shr hx26 rfl rfl) (Vy (Y_convI underlying191 underlying3 rfl) (As (To ?_)))
    refine Sr (Mm (Mm ?_))
    obtain ⟨x27, hx27, ho20⟩ := Bs ho20
    refine V_indexAddr h_x hx27 underlying23 sizeOf3 rfl rfl rfl ?_
    intro b28 o29 h30
    refine Li h30 isAgg3 (Mm ?_)
    refine Vc call88 (cmp_Less_int_c w x27 target) ?_
    rintro _ _ ⟨rfl, rfl⟩
    refine To ?_
    obtain ⟨s32, ho31, ho20⟩ := Bs ho20
    refine C_cutG (ι := Unit) (fun (_ : Unit) => [(0, v_x), (1, Ii target), (6, Ii (x.length : Int)), (7, Ii s32.1), (8, Ii s32.2)]) (fun (_ : Unit) => fun w' => w = w') ?_ ?_
    ·refine Cc (fun hc37 => ?_) fun hc37 => ?_
     ·rw [if_pos hc37] at ho31
      refine C_region (Mm (Vy (Y_addI rfl rfl) (As ?_)))
      obtain rfl := Oi ho31
      refine V_end (fun a ha38 => ?_)
      exact ⟨(), ha38.sb, rfl⟩
     rw [if_neg (nt hc37)] at ho31
     refine C_region (Mm (As ?_))
     obtain rfl := Oi ho31
     refine V_end (fun a ha39 => ?_)
     exact ⟨(), ha39.sb, rfl⟩
    rintro _ _ rfl a ha36
    obtain rfl := Oi ho20
    exact ⟨(), ha36.sb, rfl⟩
   rintro _ _ rfl a ha25
   obtain rfl := Oi h13
   exact ⟨(s21.1, s21.2), h14, ⟨(), ha25.sb, rfl⟩⟩
  rw [if_neg (nt hc19)] at h13
  obtain rfl := Oi h13
  refine C_exit (fun a ha42 => ?_)
  exact ⟨(s10.1, s10.2), ha42.sb, ⟨h14.symm, rfl⟩⟩
 rintro s4 _ ⟨rfl, rfl⟩ a ha9
 rw [Lp.andThen_fin] at hm
 refine C_at (n := ⟨54, [], none⟩) (fun _ _ => rfl) ?_ ha9
 refine Sr (Mm (Mm (Mm (Vy (Y_lss rfl rfl) (Mm ?_)))))
 obtain ⟨s45, hs45, hm⟩ := Bs hm
 refine V_cut 18 (fun _ : Unit => [(31, Ii s4.1), (53, .bool s45)]) (fun _ w' => w = w') ?_ ?_
 ·simp only [List.take, List.drop]
  rcases Be (decide (s4.1 < (x.length : Int))) with hc44 | hc44
  ·rw [if_pos hc44] at hs45
   refine Gf hc44 (Mm (Gf hc44 (Mm (Gf hc44 ?_))))
   obtain ⟨x46, hx46, hs45⟩ := Bs hs45
   refine V_indexAddr h_x hx46 underlying23 sizeOf3 rfl rfl rfl ?_
   intro b47 o48 h49
   refine Gf hc44 (Li h49 isAgg3 (Gf hc44 (Mm (Gf hc44 (Vy (Y_eql rfl rfl) (Gf hc44 (Mm ?_)))))))
   obtain ⟨s51, hs51, hs45⟩ := Bs hs45
   refine V_cut 10 (fun _ : Unit => [(31, Ii s4.1), (35, .bool (decide (s4.1 < (x.length : Int)))), (52, .bool s51)]) (fun _ w' => w = w') ?_ ?_
   ·simp only [List.take, List.drop]
    rcases Be (x46 == target) with hc50 | hc50
    ·rw [if_pos hc50] at hs51
     refine Gm hc50 (Gm hc50 (Gm hc50 (Gm hc50 (Gm hc50 (Gm hc50 ?_)))))
     refine V_gu rfl rfl rfl rfl rfl ?_
     refine V_gu rfl rfl rfl rfl rfl ?_
     refine Gm hc50 (Gf hc44 (Vy (Y_pick_te rfl hc50 rfl) ?_))
     obtain rfl := Oi hs51
     exact V_end fun a ha => ⟨(), ha.sb, rfl⟩
    rw [if_neg (nt hc50)] at hs51
    refine Gf hc50 (Mm (Gf hc50 (Mm (Gf hc50 ?_))))
    refine V_indexAddr h_x hx46 underlying23 sizeOf3 rfl rfl rfl ?_
    intro b52 o53 h54
    refine Gf hc50 (Li h54 isAgg3 (Gf hc50 ?_))
    refine Vc call89 (slices_isNaN_int_c w x46) ?_
    rintro _ _ ⟨rfl, rfl⟩
    refine Gf hc50 (Mm ?_)
    refine V_cut 3 (fun _ : Unit => [(31, Ii s4.1), (35, .bool (decide (s4.1 < (x.length : Int)))), (42, .bool (x46 == target)), (51, .bool ((slices_isNaN_int x46) && (slices_isNaN_int target)))]) (fun _ w' => w = w') ?_ ?_
    ·simp only [List.take, List.drop]
     rcases Be ((slices_isNaN_int x46)) with hc55 | hc55
     ·refine Gf hc55 (Mm (Gf hc55 ?_))
      refine Vc call89 (slices_isNaN_int_c w target) ?_
      rintro _ _ ⟨rfl, rfl⟩
      refine Gf hc50 (Vy (Y_pick_te rfl hc55 rfl) ?_)
      exact V_end fun a ha => ⟨(), ha.sub ⟨rfl, rfl, rfl, (by rw [hc55]; rfl), trivial⟩, rfl⟩
     refine Gm hc55 (Gm hc55 (Gf hc50 (Vy (Y_pick_fe rfl hc55 rfl) ?_)))
     exact V_end fun a ha => ⟨(), ha.sub ⟨rfl, rfl, rfl, (by rw [hc55]; rfl), trivial⟩, rfl⟩
    simp only [List.take, List.drop]
    rintro _ _ rfl
    refine Gf hc44 (Vy (Y_pick_fe rfl hc50 rfl) ?_)
    obtain rfl := Oi hs51
    exact V_end fun a ha => ⟨(), ha.sb, rfl⟩
   simp only [List.take, List.drop]
   rintro _ _ rfl
   refine Vy (Y_pick_te rfl hc44 rfl) ?_
   obtain rfl := Oi hs45
   exact V_end fun a ha => ⟨(), ha.sb, rfl⟩
  rw [if_neg (nt hc44)] at hs45
  refine Gm hc44 (Gm hc44 (Gm hc44 (Gm hc44 (Gm hc44 (Gm hc44 (Gm hc44 ?_))))))
  refine V_gu rfl rfl rfl rfl rfl ?_
  refine V_gu rfl rfl rfl rfl rfl ?_
  refine V_gu rfl rfl rfl rfl rfl ?_
  refine V_gu rfl rfl rfl rfl rfl ?_
  refine V_gu rfl rfl rfl rfl rfl ?_
  refine V_gu rfl rfl rfl rfl rfl ?_
  refine V_gu rfl rfl rfl rfl rfl ?_
  refine V_gu rfl rfl rfl rfl rfl ?_
  refine V_gu rfl rfl rfl rfl rfl ?_
  refine Gm hc44 (Vy (Y_pick_fe rfl hc44 rfl) ?_)
  obtain rfl := Oi hs45
  exact V_end fun a ha => ⟨(), ha.sb, rfl⟩
 simp only [List.take, List.drop]
 rintro _ _ rfl
 refine As (As (To ?_))
 obtain rfl := Oi hm
 refine Rt (Res.two results52 rfl rfl) ?_
 exact ⟨rfl, rfl⟩
theorem know_checkPositions_c (w : World) {A : Nat → Prop} (l : (List Int)) (v_l : Value) (h_l : Sl A w v_l l) (size : Int) {r : Int} (hm : know_checkPositions l size = some r) : Ret prog 99 #[v_l, Ii size] w fun v w' => v = Ii r ∧ w = w' := by
 unfold know_checkPositions at hm
 refine enter func99 rfl ntmps99 rfl ?_
 refine Sr (As (To ?_))
 refine C_seq (Sr (Mm (Vy (Y_lenSl h_l rfl underlying23 rfl) (Mm (To ?_)))))
 have hn19 := Sl.le h_l
 obtain ⟨o3, ho3, hm⟩ := Bs hm
 refine C_cutG (ι := Unit) (fun (s4 : Unit) => [(0, v_l)]) (fun (s4 : Unit) => fun w' => o3 = .fin s4 ∧ w = w') ?_ ?_
 ·refine C_block ?_
  refine C_range ho3 (fun k6 _ a w' => ∃ i : Unit, Has ⟨40, [], none⟩ a ([(0, v_l), (1, Ii size), (9, v_l), (10, Ii (l.length : Int)), (11, Ii (k6 : Int))]) ∧ w = w') (fun a ha => ⟨(), ha.sb, rfl⟩) ?_
  rintro K k6 _ a _ ⟨_, ha28, rfl⟩ hle15 K18 h17
  refine C_of ?_ ha28
  refine Sr (Vy (Y_lss rfl rfl) (To ?_))
  refine C_seq ?_
  refine Cc (fun hc20 => ?_) fun hc20 => ?_
  ·have hlt16 := lt_of_dec hc20
   obtain ⟨x12, h13, h14⟩ := K18 hlt16
   refine Sk ?_
   refine C_seq (C_block (Sr ?_))
   obtain ⟨x21, hx21, h13⟩ := Bs h13
   refine V_indexAddr h_l hx21 underlying23 sizeOf3 rfl rfl rfl ?_
   intro b22 o23 h24
   refine Li h24 isAgg3 (As (To ?_))
   refine Sr (Mm (Mm (Vy (Y_subI rfl rfl) ?_)))
   refine Vc call64 (know_within_c w x21 0 (w64 (size - 1))) ?_
   rintro _ _ ⟨rfl, rfl⟩
   refine Vy (Y_not rfl) (To ?_)
   refine Cc (fun hc25 => ?_) fun hc25 => ?_
   ·rw [if_pos hc25] at h13
    refine Sr (As (To ?_))
    obtain rfl := Oi h13
    obtain rfl := (h14 : Lp.rt _ = _)
    rw [Lp.andThen_rt] at hm
    obtain rfl := Oi hm
    refine Rt (Res.one results99 rfl) ?_
    exact ⟨rfl, rfl⟩
   rw [if_neg (nt hc25)] at h13
   refine Sk ?_
   refine C_region (Vy (Y_addI rfl rfl) (Mm ?_))
   obtain rfl := Oi h13
   refine V_end (fun a ha26 => ?_)
   exact ⟨(), hlt16, h14, ⟨(), ha26.sub ⟨rfl, rfl, rfl, rfl, Ws hlt16 hn19, trivial⟩, rfl⟩⟩
  refine C_exit (fun a ha27 => ?_)
  exact ⟨(), ha27.sb, ⟨(h17 (eq_of_dec hle15 hc20)).symm, rfl⟩⟩
 rintro s4 _ ⟨rfl, rfl⟩ a ha9
 rw [Lp.andThen_fin] at hm
 refine C_at (n := ⟨40, [], none⟩) (fun _ _ => rfl) ?_ ha9
 refine C_seq (Sr (Mm (Vy (Y_lenSl h_l rfl underlying23 rfl) (Mm (To ?_)))))
 have hn45 := Sl.le h_l
 obtain ⟨o29, ho29, hm⟩ := Bs hm
 refine C_cutG (ι := Unit) (fun (s30 : Unit) => []) (fun (s30 : Unit) => fun w' => o29 = .fin s30 ∧ w = w') ?_ ?_
 ·refine C_block ?_
  refine C_range ho29 (fun k32 _ a w' => ∃ i : Unit, Has ⟨40, [], none⟩ a ([(0, v_l), (21, v_l), (22, Ii (l.length : Int)), (23, Ii (k32 : Int))]) ∧ w = w') (fun a ha => ⟨(), ha.sb, rfl⟩) ?_
  rintro K k32 _ a _ ⟨_, ha60, rfl⟩ hle41 K44 h43
  refine C_of ?_ ha60
  refine Sr (Vy (Y_lss rfl rfl) (To ?_))
  refine C_seq ?_
  refine Cc (fun hc46 => ?_) fun hc46 => ?_
  ·have hlt42 := lt_of_dec hc46
   obtain ⟨x38, h39, h40⟩ := K44 hlt42
   refine Sk ?_
   refine C_seq (C_block (Sr (Mm ?_)))
   obtain ⟨x47, hx47, h39⟩ := Bs h39
   refine V_indexAddr h_l hx47 underlying23 sizeOf3 rfl rfl rfl ?_
   intro b48 o49 h50
   refine Li h50 isAgg3 (As (As (To ?_)))
   refine Sr (Mm (Vy (Y_gtr rfl rfl) (Mm ?_)))
   obtain ⟨s52, hs52, h39⟩ := Bs h39
   refine V_cut 8 (fun _ : Unit => [(0, v_l), (21, v_l), (22, Ii (l.length : Int)), (23, Ii (k32 : Int)), (38, .bool s52)]) (fun _ w' => w = w') ?_ ?_
   ·simp only [List.take, List.drop]
    rcases Be (decide ((0 : Int) < (k32 : Int))) with hc51 | hc51
    ·rw [if_pos hc51] at hs52
     refine Gf hc51 (Mm (Gf hc51 (Mm (Gf hc51 (Mm (Gf hc51 (Vy (Y_subI rfl rfl) (Gf hc51 ?_))))))))
     obtain ⟨x53, hx53, hs52⟩ := Bs hs52
     refine V_indexAddr h_l hx53 underlying23 sizeOf3 rfl rfl rfl ?_
     intro b54 o55 h56
     refine Gf hc51 (Li h56 isAgg3 (Gf hc51 (Vy (Y_leq rfl rfl) (Vy (Y_pick_te rfl hc51 rfl) ?_))))
     obtain rfl := Oi hs52
     exact V_end fun a ha => ⟨(), ha.sb, rfl⟩
    rw [if_neg (nt hc51)] at hs52
    refine Gm hc51 (Gm hc51 (Gm hc51 (Gm hc51 (Gm hc51 (Gm hc51 (Gm hc51 (Vy (Y_pick_fe rfl hc51 rfl) ?_)))))))
    obtain rfl := Oi hs52
    exact V_end fun a ha => ⟨(), ha.sb, rfl⟩
   simp only [List.take, List.drop]
   rintro _ _ rfl
   refine To ?_
   refine Cc (fun hc57 => ?_) fun hc57 => ?_
   ·rw [if_pos hc57] at h39
    refine Sr (As (To ?_))
    obtain rfl := Oi h39
    obtain rfl := (h40 : Lp.rt _ = _)
    rw [Lp.andThen_rt] at hm
    obtain rfl := Oi hm
    refine Rt (Res.one results99 rfl) ?_
    exact ⟨rfl, rfl⟩
   rw [if_neg (nt hc57)] at h39
   refine Sk ?_
   refine C_region (Vy (Y_addI rfl rfl) (Mm ?_))
   obtain rfl := Oi h39
   refine V_end (fun a ha58 => ?_)
   exact ⟨(), hlt42, h40, ⟨(), ha58.sub ⟨rfl, rfl, rfl, Ws hlt42 hn45, trivial⟩, rfl⟩⟩
  refine C_exit (fun a ha59 => ?_)
  exact ⟨(), ha59.sub trivial, ⟨(h43 (eq_of_dec hle41 hc46)).symm, rfl⟩⟩
 rintro s30 _ ⟨rfl, rfl⟩ a ha35
 rw [Lp.andThen_fin] at hm
 refine C_at (n := ⟨40, [], none⟩) (fun _ _ => rfl) ?_ ha35
 refine Sr (As (To ?_))
 obtain rfl := Oi hm
 refine Rt (Res.one results99 rfl) ?_
 exact ⟨rfl, rfl⟩
theorem cmp_Or_api_Errno_c (w : World) {A : Nat → Prop} (vals : (List Int)) (v_vals : Value) (h_vals : Sl A w v_vals vals) {r : Int} (hm : cmp_Or_api_Errno vals = some r) : Ret prog 49 #[v_vals] w fun v w' => v = Ii r ∧ w = w' := by
 unfold cmp_Or_api_Errno at hm
 refine enter func49 rfl ntmps49 rfl ?_
 refine Sr (As (To ?_))
 refine Sr (As (To ?_))
 refine C_seq (Sr (Mm (Vy (Y_lenSl h_vals rfl underlying187 rfl) (Mm (To ?_)))))
 have hn19 := Sl.le h_vals
 obtain ⟨o3, ho3, hm⟩ := Bs hm
 refine C_cutG (ι := Unit) (fun (s4 : Unit) => [(3, Ii 0)]) (fun (s4 : Unit) => fun w' => o3 = .fin s4 ∧ w = w') ?_ ?_
 ·refine C_block ?_
  refine C_range ho3 (fun k6 _ a w' => ∃ i : Unit, Has ⟨18, [], none⟩ a ([(3, Ii 0), (6, v_vals), (7, Ii (vals.length : Int)), (8, Ii (k6 : Int))]) ∧ w = w') (fun a ha => ⟨(), ha.sb, rfl⟩) ?_
  rintro K k6 _ a _ ⟨_, ha28, rfl⟩ hle15 K18 h17
  refine C_of ?_ ha28
  refine Sr (Vy (Y_lss rfl rfl) (To ?_))
  refine C_seq ?_
  refine Cc (fun hc20 => ?_) fun hc20 => ?_
  ·have hlt16 := lt_of_dec hc20
   obtain ⟨x12, h13, h14⟩ := K18 hlt16
   refine Sk ?_
   refine C_seq (C_block (Sr ?_))
   obtain ⟨x21, hx21, h13⟩ := Bs h13
   refine V_indexAddr h_vals hx21 underlying187 sizeOf27 rfl rfl rfl ?_
   intro b22 o23 h24
   refine Li h24 isAgg27 (As (To ?_))
   refine Sr (Mm (Mm (Vy (Y_neq rfl rfl) (To ?_))))
   refine Cc (fun hc25 => ?_) fun hc25 => ?_
   ·rw [if_pos hc25] at h13
    refine Sr (Mm (As (To ?_)))
    obtain rfl := Oi h13
    obtain rfl := (h14 : Lp.rt _ = _)
    rw [Lp.andThen_rt] at hm
    obtain rfl := Oi hm
    refine Rt (Res.one results49 rfl) ?_
    exact ⟨rfl, rfl⟩
   rw [if_neg (nt hc25)] at h13
   refine Sk ?_
   refine C_region (Vy (Y_addI rfl rfl) (Mm ?_))
   obtain rfl := Oi h13
   refine V_end (fun a ha26 => ?_)
   exact ⟨(), hlt16, h14, ⟨(), ha26.sub ⟨rfl, rfl, rfl, Ws hlt16 hn19, trivial⟩, rfl⟩⟩
  refine C_exit (fun a ha27 => ?_)
  exact ⟨(), ha27.sb, ⟨(h17 (eq_of_dec hle15 hc20)).symm, rfl⟩⟩
 rintro s4 _ ⟨rfl, rfl⟩ a ha9
 rw [Lp.andThen_fin] at hm
 refine C_at (n := ⟨18, [], none⟩) (fun _ _ => rfl) ?_ ha9
 refine Sr (Mm (As (To ?_)))
 obtain rfl := Oi hm
 refine Rt (Res.one results49 rfl) ?_
 exact ⟨rfl, rfl⟩
theorem know_Index_checkTerm_c (w : World) {A : Nat → Prop} (hA : ∀ b, w.heap.size ≤ b → A b) (x : know_Index) (v_x0 : Value) (h_x0 : Sl A w v_x0 x.ids) (v_x1 : Value) (h_x1 : Sl A w v_x1 x.sizes) (v_x2 : Value) (h_x2 : Sl A w v_x2 x.terms) (t : know_Term) (v_t : Value) (h_t : Sl A w v_t t.list_) {r : Int} (hm : know_Index_checkTerm x t = some r) : Ret prog 66 #[.agg #[v_x0, v_x1, v_x2], .agg #[.string t.word, v_t]] w fun v w' => v = Ii r ∧ Kp Dw w w' := by
 unfold know_Index_checkTerm at hm
 refine enter func66 rfl ntmps66 rfl ?_
 have hA0 := hA
 obtain ⟨hB, hK, hH⟩ := St (Dw := Dw) hA
 refine Sr ?_
 refine V_box rfl rfl ?_
 intro b9 w10 h11
 have hk13 := h11.kp (Dw := Dw)
 have h12 : El (α := know_Index) A w10 b9 0 x := h11.el hA ⟨[v_x0], _, rfl, ⟨_, rfl, h_x0⟩, ⟨[v_x1], _, rfl, ⟨_, rfl, h_x1⟩, ⟨_, rfl, h_x2⟩⟩⟩
 have ht14 := Kp.tr hk13 hA hB; replace hH := Hp.kp hH hk13; replace h_t := Sl.tr h_t ht14; replace hK := Tt hK ht14; replace hB := Bx hB ht14; replace hA := ht14.new
 refine V_box rfl rfl ?_
 intro b15 w17 h18
 have hk20 := h18.kp (Dw := Dw)
 have h19 : El (α := know_Term) A w17 b15 0 t := h18.el hA ⟨[.string t.word], _, rfl, rfl, ⟨_, rfl, h_t⟩⟩
 have ht21 := Kp.tr hk20 hA hB; replace hH := Hp.kp hH hk20; replace h12 := El.tr h12 ht21; replace hK := Tt hK ht21; replace hB := Bx hB ht21; replace hA := ht21.new
 refine As (To ?_)
 refine Sr (As (To ?_))
 refine C_seq (Sr ?_)
 have h22 := El_know_Term_1 h19
 refine Fa underlying83 rfl sizeOf81 ?_
 obtain ⟨v23, h24, h25⟩ := El.list h22
 refine Ld h24 isAgg81 (Vy (Y_lenSl h25 rfl underlying81 rfl) (Mm (To ?_)))
 have hn46 := Sl.le h25
 obtain ⟨o26, ho26, hm⟩ := Bs hm
 refine C_cutG (ι := (Int × (Nat → Prop))) (fun ⟨s27, A33⟩ => []) (fun ⟨s27, A33⟩ => fun w' => o26 = .fin s27 ∧ Hp w.heap.size A33 w' ([]) ∧ Tr Dw w.heap.size A w17 A33 w') ?_ ?_
 ·refine C_block ?_
  refine C_range ho26 (fun k29 s35 a w' => ∃ i : (Nat → Prop), Has ⟨67, [], none⟩ a ([(2, Pt b9), (5, Ii s35), (12, v23), (13, Ii (t.list_.length : Int)), (14, Ii (k29 : Int))]) ∧ Hp w.heap.size i w' ([]) ∧ Tr Dw w.heap.size A w17 i w') (fun a ha => ⟨A, ha.sb, ⟨hH, Tr.refl (Dw := Dw) hA⟩⟩) ?_
  rintro K k29 s35 a w36 ⟨A37, ha127, hH38, hr28⟩ hle42 K45 h44
  refine C_of ?_ ha127
  replace h12 := El.tr h12 hr28; replace h25 := Sl.tr h25 hr28; replace hK := Tt hK hr28; replace hB := Bx hB hr28; replace hA := hr28.new; replace hH := hH38
  refine Sr (Vy (Y_lss rfl rfl) (To ?_))
  refine C_seq ?_
  refine Cc (fun hc47 => ?_) fun hc47 => ?_
  ·have hlt43 := lt_of_dec hc47
   obtain ⟨x39, h40, h41⟩ := K45 hlt43
   refine Sk ?_
   refine C_seq (C_block (Sr ?_))
   obtain ⟨x48, hx48, h40⟩ := Bs h40
   refine V_indexAddr h25 hx48 underlying81 sizeOf86 rfl rfl rfl ?_
   intro b49 o50 h51
   obtain ⟨v52, v54, h56, h53, h55⟩ := El_know_Posting h51
   refine Vy (Y_loadA h56 isAgg86 sizeOf86 rfl) ?_
   refine V_alloc zeroValue86 rfl ?_
   intro b57 w58 h59
   have h64 : (v52).oneCell' = true := by obtain ⟨_, _, e, _⟩ := Sl.form h53; rw [e]; rfl
   have h67 : (v54).oneCell' = true := by obtain ⟨_, _, e, _⟩ := Sl.form h55; rw [e]; rfl
   refine Sn h59 sizeOf86 ?_
   intro w60 h61
   have hk69 := h61.kp (Dw := Dw)
   have h68 : El (α := know_Posting) A37 w60 b57 0 x48 := h61.el hA ⟨[Ii x48.id_], _, rfl, rfl, ⟨[v52], _, rfl, ⟨_, rfl, h53⟩, ⟨_, rfl, h55⟩⟩⟩
   have ht70 := Kp.tr hk69 hA hB; replace hH := Hp.kp hH hk69; replace h12 := El.tr h12 ht70; replace hK := Tt hK ht70; replace hr28 := Tt hr28 ht70; replace hB := Bx hB ht70; replace hA := ht70.new
   refine To ?_
   refine Sr ?_
   have h71 := El_know_Index_0 h12
   refine Fa underlying26 rfl sizeOf23 ?_
   obtain ⟨v72, h73, h74⟩ := El.list h71
   refine Ld h73 isAgg23 ?_
   have h75 := El_know_Posting_0 h68
   refine Fa underlying86 rfl sizeOf3 (Li h75 isAgg3 ?_)
   obtain ⟨x76, hx76, h40⟩ := Bs h40
   refine Vc call52 (slices_BinarySearch_Lint_int_c w60 x.ids v72 h74 x48.id_ hx76) ?_
   rintro _ _ ⟨rfl, rfl⟩
   refine Mm (Vy (Y_extract rfl rfl) (Vy (Y_extract rfl rfl) (As (As (To ?_)))))
   refine C_seq (C_block (Sr (Mm (Vy (Y_not rfl) (As (To ?_))))))
   refine Cc (fun hc77 => ?_) fun hc77 => ?_
   ·rw [if_pos hc77] at h40
    refine Sr (As (To ?_))
    obtain rfl := Oi h40
    obtain rfl := (h41 : Lp.rt _ = _)
    rw [Lp.andThen_rt] at hm
    obtain rfl := Oi hm
    refine Rt (Res.one results66 rfl) ?_
    exact ⟨rfl, hK.kp⟩
   rw [if_neg (nt hc77)] at h40
   refine Sr ?_
   have h78 := El_know_Posting_0 h68
   refine Fa underlying86 rfl sizeOf3 (Li h78 isAgg3 (Mm (Vy (Y_leq rfl rfl) (As (To ?_)))))
   refine Cc (fun hc79 => ?_) fun hc79 => ?_
   ·rw [if_pos hc79] at h40
    refine Sr (As (To ?_))
    obtain rfl := Oi h40
    obtain rfl := (h41 : Lp.rt _ = _)
    rw [Lp.andThen_rt] at hm
    obtain rfl := Oi hm
    refine Rt (Res.one results66 rfl) ?_
    exact ⟨rfl, hK.kp⟩
   rw [if_neg (nt hc79)] at h40
   refine Sr ?_
   have h80 := El_know_Posting_1 h68
   refine Fa underlying86 rfl sizeOf23 ?_
   obtain ⟨v81, h82, h83⟩ := El.list h80
   refine Ld h82 isAgg23 (Vy (Y_lenSl h83 rfl underlying23 rfl) ?_)
   have h84 := El_know_Posting_2 h68
   refine Fa underlying86 rfl sizeOf23 ?_
   obtain ⟨v85, h86, h87⟩ := El.list h84
   refine Ld h86 isAgg23 (Vy (Y_lenSl h87 rfl underlying23 rfl) (Vy (Y_addI rfl rfl) (Vy (Y_eql rfl rfl) (As (To ?_)))))
   refine Cc (fun hc88 => ?_) fun hc88 => ?_
   ·rw [if_pos hc88] at h40
    refine Sr (As (To ?_))
    obtain rfl := Oi h40
    obtain rfl := (h41 : Lp.rt _ = _)
    rw [Lp.andThen_rt] at hm
    obtain rfl := Oi hm
    refine Rt (Res.one results66 rfl) ?_
    exact ⟨rfl, hK.kp⟩
   rw [if_neg (nt hc88)] at h40
   refine Sk ?_
   refine Sr ?_
   have h89 := El_know_Posting_0 h68
   refine Fa underlying86 rfl sizeOf3 (Li h89 isAgg3 (As (To ?_)))
   refine C_seq ?_
   refine C_region_qt (Dw := Dw) 16 Tryz_mixed (by kernel_rfl) ?_
   simp only [List.take, List.drop]
   have h90 := El_know_Posting_1 h68
   refine Qf underlying86 rfl sizeOf23 ?_
   obtain ⟨v91, h92, h93⟩ := El.list h90
   refine Qc h92 isAgg23 ?_
   have h94 := El_know_Index_1 h12
   refine Qf underlying26 rfl sizeOf23 ?_
   obtain ⟨v95, h96, h97⟩ := El.list h94
   refine Qc h96 isAgg23 (Qm ?_)
   obtain ⟨x98, hx98, h40⟩ := Bs h40
   refine VQ_indexAddr h97 hx98 underlying23 sizeOf3 rfl rfl rfl ?_
   intro b99 o100 h101
   refine Qi h101 isAgg3 ?_
   obtain ⟨x102, hx102, h40⟩ := Bs h40
   refine VQ_call (Ii x102) call99 rfl rfl rfl rfl (fun w' hw' => (know_checkPositions_c w' x48.title v91 (Sl.kp h93 hw') x98 hx102).mono (fun _ _ h => ⟨h.1, h.2 ▸ hw'⟩)) ?_
   have h103 := El_know_Posting_2 h68
   refine Qf underlying86 rfl sizeOf23 ?_
   obtain ⟨v104, h105, h106⟩ := El.list h103
   refine Qc h105 isAgg23 ?_
   have h107 := El_know_Index_1 h12
   refine Qf underlying26 rfl sizeOf23 ?_
   obtain ⟨v108, h109, h110⟩ := El.list h107
   refine Qc h109 isAgg23 (Qm ?_)
   refine VQ_indexAddr h110 hx98 underlying23 sizeOf3 rfl rfl rfl ?_
   intro b111 o112 h113
   refine Qi h113 isAgg3 ?_
   obtain ⟨x114, hx114, h40⟩ := Bs h40
   refine VQ_call (Ii x114) call99 rfl rfl rfl rfl (fun w' hw' => (know_checkPositions_c w' x48.body v104 (Sl.kp h106 hw') x98 hx114).mono (fun _ _ h => ⟨h.1, h.2 ▸ hw'⟩)) ?_
   refine VQ_tail (fun w115 hk116 => ?_)
   try simp only [List.take, List.drop]
   have ht117 := Kp.tr hk116 hA hB; replace hH := Hp.kp hH hk116; replace hK := Tt hK ht117; replace hr28 := Tt hr28 ht117; replace hB := Bx hB ht117; replace hA := ht117.new
   refine V_buildSlice (Dw := Dw) (l := ([x102, x114] : List Int)) (len := 2) underlying187 sizeOf27 zeroValue27 rfl (by with_unfolding_all rfl) (show (2 * 1 : Nat) ≠ 0 by decide) (show (2 * 1 : Nat) ≤ 2 ^ 24 by decide) hA ⟨[Ii x102], _, rfl, rfl, ⟨[Ii x114], _, rfl, rfl, rfl⟩⟩ rfl rfl ?_
   intro v118 w119 hk121 h120
   have ht122 := Kp.tr hk121 hA hB; replace hH := Hp.kp hH hk121; replace hK := Tt hK ht122; replace hr28 := Tt hr28 ht122
   obtain ⟨x123, hx123, h40⟩ := Bs h40
   refine Vc call49 (cmp_Or_api_Errno_c w119 ([x102, x114] : List Int) v118 h120 hx123) ?_
   rintro _ _ ⟨rfl, rfl⟩
   refine As (To ?_)
   refine Sr (Mm (Vy (Y_neq rfl rfl) (To ?_)))
   refine Cc (fun hc124 => ?_) fun hc124 => ?_
   ·rw [if_pos hc124] at h40
    refine Sr (Mm (As (To ?_)))
    obtain rfl := Oi h40
    obtain rfl := (h41 : Lp.rt _ = _)
    rw [Lp.andThen_rt] at hm
    obtain rfl := Oi hm
    refine Rt (Res.one results66 rfl) ?_
    exact ⟨rfl, hK.kp⟩
   rw [if_neg (nt hc124)] at h40
   refine Sk ?_
   refine C_region (Vy (Y_addI rfl rfl) (Mm ?_))
   obtain rfl := Oi h40
   refine V_end (fun a ha125 => ?_)
   exact ⟨x48.id_, hlt43, h41, ⟨A37, ha125.sub ⟨rfl, rfl, rfl, rfl, Ws hlt43 hn46, trivial⟩, ⟨hH, hr28⟩⟩⟩
  refine C_exit (fun a ha126 => ?_)
  exact ⟨(s35, A37), ha126.sub trivial, ⟨(h44 (eq_of_dec hle42 hc47)).symm, hH, hr28⟩⟩
 rintro ⟨s27, A33⟩ w30 ⟨rfl, hH34, hk31⟩ a ha32
 rw [Lp.andThen_fin] at hm
 replace hK := Tr.trans hK hk31; replace hA := hk31.new; replace hH := hH34
 refine C_at (n := ⟨67, [], none⟩) (fun _ _ => rfl) ?_ ha32
 refine Sr (As (To ?_))
 obtain rfl := Oi hm
 refine Rt (Res.one results66 rfl) ?_
 exact ⟨rfl, hK.kp⟩
theorem know_CheckIndex_c (w : World) {A : Nat → Prop} (hA : ∀ b, w.heap.size ≤ b → A b) (x : know_Index) (v_x0 : Value) (h_x0 : Sl A w v_x0 x.ids) (v_x1 : Value) (h_x1 : Sl A w v_x1 x.sizes) (v_x2 : Value) (h_x2 : Sl A w v_x2 x.terms) {r : Int} (hm : know_CheckIndex x = some r) : Ret prog 12 #[.agg #[v_x0, v_x1, v_x2]] w fun v w' => v = Ii r ∧ Kp Dw w w' := by
 unfold know_CheckIndex at hm
 refine enter func12 rfl ntmps12 rfl ?_
 have hA0 := hA
 obtain ⟨hB, hK, hH⟩ := St (Dw := Dw) hA
 refine Sr ?_
 refine V_box rfl rfl ?_
 intro b7 w9 h10
 have hk12 := h10.kp (Dw := Dw)
 have h11 : El (α := know_Index) A w9 b7 0 x := h10.el hA ⟨[v_x0], _, rfl, ⟨_, rfl, h_x0⟩, ⟨[v_x1], _, rfl, ⟨_, rfl, h_x1⟩, ⟨_, rfl, h_x2⟩⟩⟩
 have ht13 := Kp.tr hk12 hA hB; replace hH := Hp.kp hH hk12; replace hK := Tt hK ht13; replace hB := Bx hB ht13; replace hA := ht13.new
 refine As (To ?_)
 refine C_seq (Sr ?_)
 have h14 := El_know_Index_0 h11
 refine Fa underlying26 rfl sizeOf23 ?_
 obtain ⟨v15, h16, h17⟩ := El.list h14
 refine Ld h16 isAgg23 (Vy (Y_lenSl h17 rfl underlying23 rfl) (Vy (Y_gtr rfl rfl) (To ?_)))
 refine Cc (fun hc18 => ?_) fun hc18 => ?_
 ·rw [if_pos hc18] at hm
  refine Sr (As (To ?_))
  obtain rfl := Oi hm
  refine Rt (Res.one results12 rfl) ?_
  exact ⟨rfl, hK.kp⟩
 rw [if_neg (nt hc18)] at hm
 refine Sk ?_
 refine C_seq (Sr ?_)
 have h19 := El_know_Index_1 h11
 refine Fa underlying26 rfl sizeOf23 ?_
 obtain ⟨v20, h21, h22⟩ := El.list h19
 refine Ld h21 isAgg23 (Vy (Y_lenSl h22 rfl underlying23 rfl) ?_)
 have h23 := El_know_Index_0 h11
 refine Fa underlying26 rfl sizeOf23 ?_
 obtain ⟨v24, h25, h26⟩ := El.list h23
 refine Ld h25 isAgg23 (Vy (Y_lenSl h26 rfl underlying23 rfl) (Vy (Y_neq rfl rfl) (To ?_)))
 refine Cc (fun hc27 => ?_) fun hc27 => ?_
 ·rw [if_pos hc27] at hm
  refine Sr (As (To ?_))
  obtain rfl := Oi hm
  refine Rt (Res.one results12 rfl) ?_
  exact ⟨rfl, hK.kp⟩
 rw [if_neg (nt hc27)] at hm
 refine Sk ?_
 refine C_seq (Sr ?_)
 have h28 := El_know_Index_0 h11
 refine Fa underlying26 rfl sizeOf23 ?_
 obtain ⟨v29, h30, h31⟩ := El.list h28
 refine Ld h30 isAgg23 (Vy (Y_lenSl h31 rfl underlying23 rfl) (Mm (To ?_)))
 have hn48 := Sl.le h31
 obtain ⟨o32, ho32, hm⟩ := Bs hm
 refine C_cutG (ι := Unit) (fun (s33 : Unit) => [(1, Pt b7)]) (fun (s33 : Unit) => fun w' => o32 = .fin s33 ∧ w9 = w') ?_ ?_
 ·refine C_block ?_
  refine C_range ho32 (fun k35 _ a w' => ∃ i : Unit, Has ⟨103, [], none⟩ a ([(1, Pt b7), (21, v29), (22, Ii (x.ids.length : Int)), (23, Ii (k35 : Int))]) ∧ w9 = w') (fun a ha => ⟨(), ha.sb, rfl⟩) ?_
  rintro K k35 _ a _ ⟨_, ha77, rfl⟩ hle44 K47 h46
  refine C_of ?_ ha77
  refine Sr (Vy (Y_lss rfl rfl) (To ?_))
  refine C_seq ?_
  refine Cc (fun hc49 => ?_) fun hc49 => ?_
  ·have hlt45 := lt_of_dec hc49
   obtain ⟨x41, h42, h43⟩ := K47 hlt45
   refine Sk ?_
   refine C_seq (C_block (Sr (Mm ?_)))
   obtain ⟨x50, hx50, h42⟩ := Bs h42
   refine V_indexAddr h31 hx50 underlying23 sizeOf3 rfl rfl rfl ?_
   intro b51 o52 h53
   refine Li h53 isAgg3 (As (As (To ?_)))
   refine C_block (Sr (Mm ?_))
   refine Vc call64 (know_within_c w9 x50 1 3000000) ?_
   rintro _ _ ⟨rfl, rfl⟩
   refine Vy (Y_not rfl) (As (To ?_))
   refine Cc (fun hc54 => ?_) fun hc54 => ?_
   ·rw [if_pos hc54] at h42
    refine Sr (As (To ?_))
    obtain rfl := Oi h42
    obtain rfl := (h43 : Lp.rt _ = _)
    rw [Lp.andThen_rt] at hm
    obtain rfl := Oi hm
    refine Rt (Res.one results12 rfl) ?_
    exact ⟨rfl, hK.kp⟩
   rw [if_neg (nt hc54)] at h42
   refine Sr (Mm (Vy (Y_gtr rfl rfl) (Mm ?_)))
   obtain ⟨s56, hs56, h42⟩ := Bs h42
   refine V_cut 9 (fun _ : Unit => [(1, Pt b7), (3, Ii (k35 : Int)), (21, v29), (22, Ii (x.ids.length : Int)), (23, Ii (k35 : Int)), (44, .bool s56)]) (fun _ w' => w9 = w') ?_ ?_
   ·simp only [List.take, List.drop]
    rcases Be (decide ((0 : Int) < (k35 : Int))) with hc55 | hc55
    ·rw [if_pos hc55] at hs56
     refine Gf hc55 (Mm (Gf hc55 ?_))
     have h57 := El_know_Index_0 h11
     refine Fa underlying26 rfl sizeOf23 (Gf hc55 ?_)
     obtain ⟨v58, h59, h60⟩ := El.list h57
     refine Ld h59 isAgg23 (Gf hc55 (Mm (Gf hc55 (Vy (Y_subI rfl rfl) (Gf hc55 ?_)))))
     obtain ⟨x61, hx61, hs56⟩ := Bs hs56
     refine V_indexAddr h60 hx61 underlying23 sizeOf3 rfl rfl rfl ?_
     intro b62 o63 h64
     refine Gf hc55 (Li h64 isAgg3 (Gf hc55 (Vy (Y_leq rfl rfl) (Vy (Y_pick_te rfl hc55 rfl) ?_))))
     obtain rfl := Oi hs56
     exact V_end fun a ha => ⟨(), ha.sb, rfl⟩
    rw [if_neg (nt hc55)] at hs56
    refine Gm hc55 (Gm hc55 (Gm hc55 (Gm hc55 (Gm hc55 (Gm hc55 (Gm hc55 (Gm hc55 (Vy (Y_pick_fe rfl hc55 rfl) ?_))))))))
    obtain rfl := Oi hs56
    exact V_end fun a ha => ⟨(), ha.sb, rfl⟩
   simp only [List.take, List.drop]
   rintro _ _ rfl
   refine As (To ?_)
   refine Cc (fun hc65 => ?_) fun hc65 => ?_
   ·rw [if_pos hc65] at h42
    refine Sr (As (To ?_))
    obtain rfl := Oi h42
    obtain rfl := (h43 : Lp.rt _ = _)
    rw [Lp.andThen_rt] at hm
    obtain rfl := Oi hm
    refine Rt (Res.one results12 rfl) ?_
    exact ⟨rfl, hK.kp⟩
   rw [if_neg (nt hc65)] at h42
   refine Sr ?_
   have h66 := El_know_Index_1 h11
   refine Fa underlying26 rfl sizeOf23 ?_
   obtain ⟨v67, h68, h69⟩ := El.list h66
   refine Ld h68 isAgg23 (Mm ?_)
   obtain ⟨x70, hx70, h42⟩ := Bs h42
   refine V_indexAddr h69 hx70 underlying23 sizeOf3 rfl rfl rfl ?_
   intro b71 o72 h73
   refine Li h73 isAgg3 ?_
   refine Vc call64 (know_within_c w9 x70 0 20000) ?_
   rintro _ _ ⟨rfl, rfl⟩
   refine Vy (Y_not rfl) (As (To ?_))
   refine Cc (fun hc74 => ?_) fun hc74 => ?_
   ·rw [if_pos hc74] at h42
    refine Sr (As (To ?_))
    obtain rfl := Oi h42
    obtain rfl := (h43 : Lp.rt _ = _)
    rw [Lp.andThen_rt] at hm
    obtain rfl := Oi hm
    refine Rt (Res.one results12 rfl) ?_
    exact ⟨rfl, hK.kp⟩
   rw [if_neg (nt hc74)] at h42
   refine Sk ?_
   refine C_region (Vy (Y_addI rfl rfl) (Mm ?_))
   obtain rfl := Oi h42
   refine V_end (fun a ha75 => ?_)
   exact ⟨(), hlt45, h43, ⟨(), ha75.sub ⟨rfl, rfl, rfl, Ws hlt45 hn48, trivial⟩, rfl⟩⟩
  refine C_exit (fun a ha76 => ?_)
  exact ⟨(), ha76.sb, ⟨(h46 (eq_of_dec hle44 hc49)).symm, rfl⟩⟩
 rintro s33 _ ⟨rfl, rfl⟩ a ha38
 rw [Lp.andThen_fin] at hm
 refine C_at (n := ⟨103, [], none⟩) (fun _ _ => rfl) ?_ ha38
 refine C_seq (Sr ?_)
 have h78 := El_know_Index_2 h11
 refine Fa underlying26 rfl sizeOf24 ?_
 obtain ⟨v79, h80, h81⟩ := El.list h78
 refine Ld h80 isAgg24 (Vy (Y_lenSl h81 rfl underlying24 rfl) (Mm (To ?_)))
 have hn102 := Sl.le h81
 obtain ⟨o82, ho82, hm⟩ := Bs hm
 refine C_cutG (ι := (Unit × (Nat → Prop))) (fun ⟨s83, A89⟩ => []) (fun ⟨s83, A89⟩ => fun w' => o82 = .fin s83 ∧ Hp w.heap.size A89 w' ([]) ∧ Tr Dw w.heap.size A w9 A89 w') ?_ ?_
 ·refine C_block ?_
  refine C_range ho82 (fun k85 _ a w' => ∃ i : (Nat → Prop), Has ⟨103, [], none⟩ a ([(1, Pt b7), (55, v79), (56, Ii (x.terms.length : Int)), (57, Ii (k85 : Int))]) ∧ Hp w.heap.size i w' ([]) ∧ Tr Dw w.heap.size A w9 i w') (fun a ha => ⟨A, ha.sb, ⟨hH, Tr.refl (Dw := Dw) hA⟩⟩) ?_
  rintro K k85 _ a w92 ⟨A93, ha182, hH94, hr84⟩ hle98 K101 h100
  refine C_of ?_ ha182
  replace h11 := El.tr h11 hr84; replace h81 := Sl.tr h81 hr84; replace hK := Tt hK hr84; replace hB := Bx hB hr84; replace hA := hr84.new; replace hH := hH94
  refine Sr (Vy (Y_lss rfl rfl) (To ?_))
  refine C_seq ?_
  refine Cc (fun hc103 => ?_) fun hc103 => ?_
  ·have hlt99 := lt_of_dec hc103
   obtain ⟨x95, h96, h97⟩ := K101 hlt99
   refine Sk ?_
   refine C_seq (C_block (Sr (Mm ?_)))
   obtain ⟨x104, hx104, h96⟩ := Bs h96
   refine V_indexAddr h81 hx104 underlying24 sizeOf83 rfl rfl rfl ?_
   intro b105 o106 h107
   obtain ⟨v108, h110, h109⟩ := El_know_Term h107
   refine Vy (Y_loadA h110 isAgg83 sizeOf83 rfl) ?_
   refine V_alloc zeroValue83 rfl ?_
   intro b111 w112 h113
   refine As ?_
   have h118 : (v108).oneCell' = true := by obtain ⟨_, _, e, _⟩ := Sl.form h109; rw [e]; rfl
   refine Sn h113 sizeOf83 ?_
   intro w114 h115
   have hk120 := h115.kp (Dw := Dw)
   have h119 : El (α := know_Term) A93 w114 b111 0 x104 := h115.el hA ⟨[.string x104.word], _, rfl, rfl, ⟨_, rfl, h109⟩⟩
   have ht121 := Kp.tr hk120 hA hB; replace hH := Hp.kp hH hk120; replace h11 := El.tr h11 ht121; replace hK := Tt hK ht121; replace hr84 := Tt hr84 ht121; replace hB := Bx hB ht121; replace hA := ht121.new
   refine To ?_
   refine C_seq (Sr ?_)
   have h122 := El_know_Term_0 h119
   refine Fa underlying83 rfl sizeOf9 (Ld (El.str h122) isAgg9 ?_)
   obtain ⟨x123, hx123, h96⟩ := Bs h96
   refine Vc call65 (know_Words_c (Dw := Dw) w114 hA x104.word hx123) ?_
   rintro v124 w126 ⟨_, rfl, h125, hk127⟩
   obtain ⟨A128, ht129, hH130⟩ := Hp.addOwnd (Dw := Dw) hH hB hA hk127 h125
   replace h11 := El.tr h11 ht129; replace h119 := El.tr h119 ht129; replace hK := Tt hK ht129; replace hr84 := Tt hr84 ht129; replace hB := Bx hB ht129; replace hA := ht129.new
   replace hH : Hp _ _ _ (o_9 v124 x123 :: []) := hH130
   refine As (To ?_)
   refine C_seq ?_
   refine C_region_q (Dw := Dw) Tryz_mixed (by kernel_rfl) ?_
   refine Qm (Qv (fun w' hw' => Y_lenSl (Hp.any (α := ByteArray) (e := 9) (v := v124) (l := x123) hH (i := 0) rfl) rfl underlying73 rfl) (Qv (fun w' hw' => Y_neq rfl rfl) (Qm ?_)))
   obtain ⟨s132, hs132, h96⟩ := Bs h96
   refine VQ_cut 7 (fun _ : Unit => [(1, Pt b7), (5, Ii (k85 : Int)), (6, Pt b111), (55, v79), (56, Ii (x.terms.length : Int)), (57, Ii (k85 : Int)), (75, .bool s132)]) (fun _ => True) ?_ ?_
   ·simp only [List.take, List.drop]
    rcases Be ((x123.length : Int) != 1) with hc131 | hc131
    ·rw [if_pos hc131] at hs132
     refine Qg hc131 (Qg hc131 (Qg hc131 (Qg hc131 (Qg hc131 (Qg hc131 ?_)))))
     refine VQ_y (fun _ _ => Y_pick_te rfl hc131 rfl) rfl rfl rfl ?_
     obtain rfl := Oi hs132
     exact VQ_end fun a ha => ⟨(), ha.sb, trivial⟩
    rw [if_neg (nt hc131)] at hs132
    refine Qh hc131 (Qm (Qh hc131 ?_))
    obtain ⟨x133, hx133, hs132⟩ := Bs hs132
    refine VQ_indexAddrH (α := ByteArray) (e := 9) (v := v124) (l := x123) hH (i := 0) rfl hx133 underlying73 sizeOf9 rfl rfl rfl ?_
    intro b134 o135 h136 hl137
    refine Qh hc131 (Ql (fun w' hw' => (El.str (El.kp h136 hw'))) isAgg9 (Qh hc131 ?_))
    have h138 := El_know_Term_0 h119
    refine Qf underlying83 rfl sizeOf9 (Qh hc131 (Ql (fun w' hw' => (El.str (El.kp h138 hw'))) isAgg9 (Qh hc131 (Qv (fun w' hw' => Y_sneq rfl rfl) ?_))))
    refine VQ_y (fun _ _ => Y_pick_fe rfl hc131 rfl) rfl rfl rfl ?_
    obtain rfl := Oi hs132
    exact VQ_end fun a ha => ⟨(), ha.sb, trivial⟩
   simp only [List.take, List.drop]
   rintro _ _
   refine Qm ?_
   refine VQ_cut 5 (fun _ : Unit => [(1, Pt b7), (5, Ii (k85 : Int)), (6, Pt b111), (55, v79), (56, Ii (x.terms.length : Int)), (57, Ii (k85 : Int)), (81, .bool (s132 || ((x104.list_.length : Int) == 0)))]) (fun _ => True) ?_ ?_
   ·simp only [List.take, List.drop]
    rcases Be (s132) with hc139 | hc139
    ·refine Qg hc139 (Qg hc139 (Qg hc139 (Qg hc139 ?_)))
     refine VQ_y (fun _ _ => Y_pick_te rfl hc139 rfl) rfl rfl rfl ?_
     exact VQ_end fun a ha => ⟨(), ha.sub ⟨rfl, rfl, rfl, rfl, rfl, rfl, (by rw [hc139]; rfl), trivial⟩, trivial⟩
    refine Qh hc139 ?_
    have h141 := El_know_Term_1 h119
    refine Qf underlying83 rfl sizeOf81 (Qh hc139 ?_)
    obtain ⟨v142, h143, h144⟩ := El.list h141
    refine Qc h143 isAgg81 (Qh hc139 (Qv (fun w' hw' => Y_lenSl h144 rfl underlying81 rfl) (Qh hc139 (Qv (fun w' hw' => Y_eql rfl rfl) ?_))))
    refine VQ_y (fun _ _ => Y_pick_fe rfl hc139 rfl) rfl rfl rfl ?_
    exact VQ_end fun a ha => ⟨(), ha.sub ⟨rfl, rfl, rfl, rfl, rfl, rfl, (by rw [hc139]; rfl), trivial⟩, trivial⟩
   simp only [List.take, List.drop]
   rintro _ _
   refine VQ_to (fun _ _ => rfl) (fun w145 hk146 => ?_)
   have ht147 := Kp.tr hk146 hA hB; replace hH := Hp.kp hH hk146; replace h11 := El.tr h11 ht147; replace h119 := El.tr h119 ht147; replace hK := Tt hK ht147; replace hr84 := Tt hr84 ht147; replace hB := Bx hB ht147; replace hA := ht147.new
   refine Cc (fun hc148 => ?_) fun hc148 => ?_
   ·rw [if_pos hc148] at h96
    refine Sr (As (To ?_))
    obtain rfl := Oi h96
    obtain rfl := (h97 : Lp.rt _ = _)
    rw [Lp.andThen_rt] at hm
    obtain rfl := Oi hm
    refine Rt (Res.one results12 rfl) ?_
    exact ⟨rfl, hK.kp⟩
   rw [if_neg (nt hc148)] at h96
   refine Sk ?_
   refine C_seq (C_seq ?_)
   refine C_region_q (Dw := Dw) Tryz_mixed (by kernel_rfl) ?_
   refine Qm (Qv (fun w' hw' => Y_gtr rfl rfl) (Qm ?_))
   obtain ⟨s150, hs150, h96⟩ := Bs h96
   refine VQ_cut 11 (fun _ : Unit => [(1, Pt b7), (6, Pt b111), (55, v79), (56, Ii (x.terms.length : Int)), (57, Ii (k85 : Int)), (95, .bool s150)]) (fun _ => True) ?_ ?_
   ·simp only [List.take, List.drop]
    rcases Be (decide ((0 : Int) < (k85 : Int))) with hc149 | hc149
    ·rw [if_pos hc149] at hs150
     refine Qh hc149 ?_
     have h151 := El_know_Term_0 h119
     refine Qf underlying83 rfl sizeOf9 (Qh hc149 (Ql (fun w' hw' => (El.str (El.kp h151 hw'))) isAgg9 (Qh hc149 ?_)))
     have h152 := El_know_Index_2 h11
     refine Qf underlying26 rfl sizeOf24 (Qh hc149 ?_)
     obtain ⟨v153, h154, h155⟩ := El.list h152
     refine Qc h154 isAgg24 (Qh hc149 (Qm (Qh hc149 (Qv (fun w' hw' => Y_subI rfl rfl) (Qh hc149 ?_)))))
     obtain ⟨x156, hx156, hs150⟩ := Bs hs150
     refine VQ_indexAddr h155 hx156 underlying24 sizeOf83 rfl rfl rfl ?_
     intro b157 o158 h159
     refine Qh hc149 ?_
     have h160 := El_know_Term_0 h159
     refine Qf underlying83 rfl sizeOf9 (Qh hc149 (Ql (fun w' hw' => (El.str (El.kp h160 hw'))) isAgg9 (Qh hc149 (Qv (fun w' hw' => Y_sleq rfl rfl) ?_))))
     refine VQ_y (fun _ _ => Y_pick_te rfl hc149 rfl) rfl rfl rfl ?_
     obtain rfl := Oi hs150
     exact VQ_end fun a ha => ⟨(), ha.sb, trivial⟩
    rw [if_neg (nt hc149)] at hs150
    refine Qg hc149 (Qg hc149 (Qg hc149 (Qg hc149 (Qg hc149 (Qg hc149 (Qg hc149 (Qg hc149 (Qg hc149 (Qg hc149 ?_)))))))))
    refine VQ_y (fun _ _ => Y_pick_fe rfl hc149 rfl) rfl rfl rfl ?_
    obtain rfl := Oi hs150
    exact VQ_end fun a ha => ⟨(), ha.sb, trivial⟩
   simp only [List.take, List.drop]
   rintro _ _
   refine VQ_to (fun _ _ => rfl) (fun w161 hk162 => ?_)
   have ht163 := Kp.tr hk162 hA hB; replace hH := Hp.kp hH hk162; replace h11 := El.tr h11 ht163; replace h119 := El.tr h119 ht163; replace hK := Tt hK ht163; replace hr84 := Tt hr84 ht163; replace hB := Bx hB ht163; replace hA := ht163.new
   refine Cc (fun hc164 => ?_) fun hc164 => ?_
   ·rw [if_pos hc164] at h96
    refine Sr (As (To ?_))
    obtain rfl := Oi h96
    obtain rfl := (h97 : Lp.rt _ = _)
    rw [Lp.andThen_rt] at hm
    obtain rfl := Oi hm
    refine Rt (Res.one results12 rfl) ?_
    exact ⟨rfl, hK.kp⟩
   rw [if_neg (nt hc164)] at h96
   refine Sk ?_
   refine Sr ?_
   obtain ⟨v165, v167, v169, h171, h166, h168, h170⟩ := El_know_Index h11
   refine Vy (Y_loadA h171 isAgg26 sizeOf26 rfl) ?_
   obtain ⟨v172, h174, h173⟩ := El_know_Term h119
   refine Vy (Y_loadA h174 isAgg83 sizeOf83 rfl) ?_
   obtain ⟨x175, hx175, h96⟩ := Bs h96
   refine Vc call66 (know_Index_checkTerm_c (Dw := Dw) w161 hA x v165 h166 v167 h168 v169 h170 x104 v172 h173 hx175) ?_
   rintro _ w176 ⟨rfl, hk177⟩
   have ht178 := Kp.tr hk177 hA hB; replace hH := Hp.kp hH hk177; replace hK := Tt hK ht178; replace hr84 := Tt hr84 ht178
   refine As (To ?_)
   refine Sr (Mm (Vy (Y_neq rfl rfl) (To ?_)))
   refine Cc (fun hc179 => ?_) fun hc179 => ?_
   ·rw [if_pos hc179] at h96
    refine Sr (Mm (As (To ?_)))
    obtain rfl := Oi h96
    obtain rfl := (h97 : Lp.rt _ = _)
    rw [Lp.andThen_rt] at hm
    obtain rfl := Oi hm
    refine Rt (Res.one results12 rfl) ?_
    exact ⟨rfl, hK.kp⟩
   rw [if_neg (nt hc179)] at h96
   refine Sk ?_
   refine C_region (Vy (Y_addI rfl rfl) (Mm ?_))
   obtain rfl := Oi h96
   refine V_end (fun a ha180 => ?_)
   replace hH : Hp w.heap.size A128 w176 ([]) := Hp.drop hH (i := 0) rfl
   exact ⟨(), hlt99, h97, ⟨A128, ha180.sub ⟨rfl, rfl, rfl, Ws hlt99 hn102, trivial⟩, ⟨hH, hr84⟩⟩⟩
  refine C_exit (fun a ha181 => ?_)
  exact ⟨((), A93), ha181.sub trivial, ⟨(h100 (eq_of_dec hle98 hc103)).symm, hH, hr84⟩⟩
 rintro ⟨s83, A89⟩ w86 ⟨rfl, hH90, hk87⟩ a ha88
 rw [Lp.andThen_fin] at hm
 replace hK := Tr.trans hK hk87; replace hA := hk87.new; replace hH := hH90
 refine C_at (n := ⟨103, [], none⟩) (fun _ _ => rfl) ?_ ha88
 refine Sr (As (To ?_))
 obtain rfl := Oi hm
 refine Rt (Res.one results12 rfl) ?_
 exact ⟨rfl, hK.kp⟩
theorem know_plain_c (w : World) (s : ByteArray) (feeds : Bool) {r : Bool} (hm : know_plain s feeds = some r) : Ret prog 102 #[.string s, .bool feeds] w fun v w' => v = .bool r ∧ w = w' := by
 unfold know_plain at hm
 refine enter func102 rfl ntmps102 rfl ?_
 refine Sr (As (To ?_))
 refine C_seq (Sr (Mm (Vy (Y_lenStr rfl underlying9 rfl) (Mm (To ?_)))))
 obtain ⟨o1, ho1, hm⟩ := Bs hm
 refine C_cutG (ι := Int) (fun (s2 : Int) => []) (fun (s2 : Int) => fun w' => o1 = .fin s2 ∧ w = w') ?_ ?_
 ·refine C_block ?_
  refine C_while ho1 (fun s8 a w' => ∃ i : Unit, Has ⟨32, [], none⟩ a ([(0, .string s), (1, .bool feeds), (7, Ii (s.size : Int)), (8, Ii s8)]) ∧ w = w') (fun a ha => ⟨(), ha.sb, rfl⟩) ?_
  rintro K s8 a _ ⟨_, ha28, rfl⟩ K16
  refine C_of ?_ ha28
  obtain ⟨x10, h11, h12⟩ := K16
  refine Sr (Vy (Y_lss rfl rfl) (To ?_))
  refine C_seq ?_
  refine Cc (fun hc17 => ?_) fun hc17 => ?_
  ·rw [if_pos hc17] at h11
   refine Sk ?_
   refine C_seq (C_block (Sr (Mm (As (To ?_)))))
   refine Sr (Mm (Mm ?_))
   obtain ⟨x18, hx18, h11⟩ := Bs h11
   refine Vy (Y_indexS hx18 underlying9 rfl rfl) (Vy (Y_lss rfl rfl) (Mm ?_))
   obtain ⟨s20, hs20, h11⟩ := Bs h11
   refine V_cut 5 (fun _ : Unit => [(0, .string s), (1, .bool feeds), (5, Ii s8), (7, Ii (s.size : Int)), (8, Ii s8), (20, .bool s20)]) (fun _ w' => w = w') ?_ ?_
   ·simp only [List.take, List.drop]
    rcases Be (decide ((x18.toNat : Int) < 32)) with hc19 | hc19
    ·rw [if_pos hc19] at hs20
     refine Gm hc19 (Gm hc19 (Gm hc19 (Gm hc19 (Vy (Y_pick_te rfl hc19 rfl) ?_))))
     obtain rfl := Oi hs20
     exact V_end fun a ha => ⟨(), ha.sb, rfl⟩
    rw [if_neg (nt hc19)] at hs20
    refine Gf hc19 (Mm (Gf hc19 (Mm (Gf hc19 (Vy (Y_indexS hx18 underlying9 rfl rfl) (Gf hc19 (Vy (Y_eql rfl rfl) (Vy (Y_pick_fe rfl hc19 rfl) ?_))))))))
    obtain rfl := Oi hs20
    exact V_end fun a ha => ⟨(), ha.sb, rfl⟩
   simp only [List.take, List.drop]
   rintro _ _ rfl
   refine Mm ?_
   obtain ⟨s22, hs22, h11⟩ := Bs h11
   refine V_cut 9 (fun _ : Unit => [(0, .string s), (1, .bool feeds), (7, Ii (s.size : Int)), (8, Ii s8), (30, .bool s22)]) (fun _ w' => w = w') ?_ ?_
   ·simp only [List.take, List.drop]
    rcases Be (s20) with hc21 | hc21
    ·rw [if_pos hc21] at hs22
     refine Gf hc21 (Mm (Gf hc21 (Mm (Gf hc21 (Vy (Y_indexS hx18 underlying9 rfl rfl) (Gf hc21 (Vy (Y_neq rfl rfl) (Gf hc21 (Mm ?_)))))))))
     refine V_cut 3 (fun _ : Unit => [(0, .string s), (1, .bool feeds), (7, Ii (s.size : Int)), (8, Ii s8), (21, .bool s20), (29, .bool (((x18.toNat : Int) != 10) || (!feeds)))]) (fun _ w' => w = w') ?_ ?_
     ·simp only [List.take, List.drop]
      rcases Be ((x18.toNat : Int) != 10) with hc23 | hc23
      ·refine Gm hc23 (Gm hc23 (Gf hc21 (Vy (Y_pick_te rfl hc23 rfl) ?_)))
       exact V_end fun a ha => ⟨(), ha.sub ⟨rfl, rfl, rfl, rfl, rfl, (by rw [hc23]; rfl), trivial⟩, rfl⟩
      refine Gf hc23 (Mm (Gf hc23 (Vy (Y_not rfl) (Gf hc21 (Vy (Y_pick_fe rfl hc23 rfl) ?_)))))
      exact V_end fun a ha => ⟨(), ha.sub ⟨rfl, rfl, rfl, rfl, rfl, (by rw [hc23]; rfl), trivial⟩, rfl⟩
     simp only [List.take, List.drop]
     rintro _ _ rfl
     refine Vy (Y_pick_te rfl hc21 rfl) ?_
     obtain rfl := Oi hs22
     exact V_end fun a ha => ⟨(), ha.sb, rfl⟩
    rw [if_neg (nt hc21)] at hs22
    refine Gm hc21 (Gm hc21 (Gm hc21 (Gm hc21 (Gm hc21 ?_))))
    refine V_gu rfl rfl rfl rfl rfl ?_
    refine V_gu rfl rfl rfl rfl rfl ?_
    refine Gm hc21 (Vy (Y_pick_fe rfl hc21 rfl) ?_)
    obtain rfl := Oi hs22
    exact V_end fun a ha => ⟨(), ha.sb, rfl⟩
   simp only [List.take, List.drop]
   rintro _ _ rfl
   refine To ?_
   refine Cc (fun hc25 => ?_) fun hc25 => ?_
   ·rw [if_pos hc25] at h11
    refine Sr (As (To ?_))
    obtain rfl := Oi h11
    obtain rfl := (h12 : Lp.rt _ = _)
    rw [Lp.andThen_rt] at hm
    obtain rfl := Oi hm
    refine Rt (Res.one results102 rfl) ?_
    exact ⟨rfl, rfl⟩
   rw [if_neg (nt hc25)] at h11
   refine Sk ?_
   refine C_region (Vy (Y_addI rfl rfl) (Mm ?_))
   obtain rfl := Oi h11
   refine V_end (fun a ha26 => ?_)
   exact ⟨w64 (s8 + 1), h12, ⟨(), ha26.sb, rfl⟩⟩
  rw [if_neg (nt hc17)] at h11
  obtain rfl := Oi h11
  refine C_exit (fun a ha27 => ?_)
  exact ⟨s8, ha27.sub trivial, ⟨h12.symm, rfl⟩⟩
 rintro s2 _ ⟨rfl, rfl⟩ a ha7
 rw [Lp.andThen_fin] at hm
 refine C_at (n := ⟨32, [], none⟩) (fun _ _ => rfl) ?_ ha7
 refine Sr (As (To ?_))
 obtain rfl := Oi hm
 refine Rt (Res.one results102 rfl) ?_
 exact ⟨rfl, rfl⟩
theorem know_checkText_c (w : World) (title : ByteArray) (body : ByteArray) {r : Int} (hm : know_checkText title body = some r) : Ret prog 70 #[.string title, .string body] w fun v w' => v = Ii r ∧ w = w' := by
 unfold know_checkText at hm
 refine enter func70 rfl ntmps70 rfl ?_
 refine Sr (As (To ?_))
 refine C_seq (Sr (Mm (Vy (Y_lenStr rfl underlying9 rfl) (Vy (Y_gtr rfl rfl) (Mm ?_)))))
 refine V_cut 4 (fun _ : Unit => [(0, .string title), (1, .string body), (12, .bool ((decide ((200 : Int) < (title.size : Int))) || (decide ((20000 : Int) < (body.size : Int)))))]) (fun _ w' => w = w') ?_ ?_
 ·simp only [List.take, List.drop]
  rcases Be (decide ((200 : Int) < (title.size : Int))) with hc1 | hc1
  ·refine Gm hc1 (Gm hc1 (Gm hc1 (Vy (Y_pick_te rfl hc1 rfl) ?_)))
   exact V_end fun a ha => ⟨(), ha.sub ⟨rfl, rfl, (by rw [hc1]; rfl), trivial⟩, rfl⟩
  refine Gf hc1 (Mm (Gf hc1 (Vy (Y_lenStr rfl underlying9 rfl) (Gf hc1 (Vy (Y_gtr rfl rfl) (Vy (Y_pick_fe rfl hc1 rfl) ?_))))))
  exact V_end fun a ha => ⟨(), ha.sub ⟨rfl, rfl, (by rw [hc1]; rfl), trivial⟩, rfl⟩
 simp only [List.take, List.drop]
 rintro _ _ rfl
 refine To ?_
 refine Cc (fun hc3 => ?_) fun hc3 => ?_
 ·rw [if_pos hc3] at hm
  refine Sr (As (To ?_))
  obtain rfl := Oi hm
  refine Rt (Res.one results70 rfl) ?_
  exact ⟨rfl, rfl⟩
 rw [if_neg (nt hc3)] at hm
 refine Sk ?_
 refine C_seq (Sr (Mm ?_))
 obtain ⟨x4, hx4, hm⟩ := Bs hm
 refine Vc call102 (know_plain_c w title false hx4) ?_
 rintro _ _ ⟨rfl, rfl⟩
 refine Vy (Y_not rfl) (Mm ?_)
 obtain ⟨s6, hs6, hm⟩ := Bs hm
 refine V_cut 4 (fun _ : Unit => [(20, .bool s6)]) (fun _ w' => w = w') ?_ ?_
 ·simp only [List.take, List.drop]
  rcases Be (!x4) with hc5 | hc5
  ·rw [if_pos hc5] at hs6
   refine Gm hc5 (Gm hc5 (Gm hc5 (Vy (Y_pick_te rfl hc5 rfl) ?_)))
   obtain rfl := Oi hs6
   exact V_end fun a ha => ⟨(), ha.sb, rfl⟩
  rw [if_neg (nt hc5)] at hs6
  refine Gf hc5 (Mm (Gf hc5 ?_))
  obtain ⟨x7, hx7, hs6⟩ := Bs hs6
  refine Vc call102 (know_plain_c w body true hx7) ?_
  rintro _ _ ⟨rfl, rfl⟩
  refine Gf hc5 (Vy (Y_not rfl) (Vy (Y_pick_fe rfl hc5 rfl) ?_))
  obtain rfl := Oi hs6
  exact V_end fun a ha => ⟨(), ha.sb, rfl⟩
 simp only [List.take, List.drop]
 rintro _ _ rfl
 refine To ?_
 refine Cc (fun hc8 => ?_) fun hc8 => ?_
 ·rw [if_pos hc8] at hm
  refine Sr (As (To ?_))
  obtain rfl := Oi hm
  refine Rt (Res.one results70 rfl) ?_
  exact ⟨rfl, rfl⟩
 rw [if_neg (nt hc8)] at hm
 refine Sk ?_
 refine Sr (As (To ?_))
 obtain rfl := Oi hm
 refine Rt (Res.one results70 rfl) ?_
 exact ⟨rfl, rfl⟩
theorem know_checkEntry_c (w : World) {A : Nat → Prop} (hA : ∀ b, w.heap.size ≤ b → A b) (v : know_Entry) (before : Int) {r : Int} (hm : know_checkEntry v before = some r) : Ret prog 14 #[.agg #[Ii v.id_, .string v.title, .string v.body], Ii before] w fun v w' => v = Ii r ∧ Kp Dw w w' := by
 unfold know_checkEntry at hm
 refine enter func14 rfl ntmps14 rfl ?_
 have hA0 := hA
 obtain ⟨hB, hK, hH⟩ := St (Dw := Dw) hA
 refine Sr ?_
 refine V_box rfl rfl ?_
 intro b1 w2 h3
 have hk5 := h3.kp (Dw := Dw)
 have h4 : El (α := know_Entry) A w2 b1 0 v := h3.el hA ⟨[Ii v.id_], _, rfl, rfl, ⟨[.string v.title], _, rfl, rfl, rfl⟩⟩
 have ht6 := Kp.tr hk5 hA hB; replace hK := Tt hK ht6
 refine As (To ?_)
 refine C_seq (C_block (Sr ?_))
 have h7 := El_know_Entry_0 h4
 refine Fa underlying33 rfl sizeOf3 (Li h7 isAgg3 ?_)
 refine Vc call64 (know_within_c w2 v.id_ 1 3000000) ?_
 rintro _ _ ⟨rfl, rfl⟩
 refine Vy (Y_not rfl) (As (To ?_))
 refine Cc (fun hc8 => ?_) fun hc8 => ?_
 ·rw [if_pos hc8] at hm
  refine Sr (As (To ?_))
  obtain rfl := Oi hm
  refine Rt (Res.one results14 rfl) ?_
  exact ⟨rfl, hK.kp⟩
 rw [if_neg (nt hc8)] at hm
 refine Sr ?_
 have h9 := El_know_Entry_0 h4
 refine Fa underlying33 rfl sizeOf3 (Li h9 isAgg3 (Mm (Vy (Y_leq rfl rfl) (As (To ?_)))))
 refine Cc (fun hc10 => ?_) fun hc10 => ?_
 ·rw [if_pos hc10] at hm
  refine Sr (As (To ?_))
  obtain rfl := Oi hm
  refine Rt (Res.one results14 rfl) ?_
  exact ⟨rfl, hK.kp⟩
 rw [if_neg (nt hc10)] at hm
 refine Sk ?_
 refine Sr ?_
 have h11 := El_know_Entry_1 h4
 refine Fa underlying33 rfl sizeOf9 (Ld (El.str h11) isAgg9 ?_)
 have h12 := El_know_Entry_2 h4
 refine Fa underlying33 rfl sizeOf9 (Ld (El.str h12) isAgg9 ?_)
 obtain ⟨x13, hx13, hm⟩ := Bs hm
 refine Vc call70 (know_checkText_c w2 v.title v.body hx13) ?_
 rintro _ _ ⟨rfl, rfl⟩
 refine As (To ?_)
 obtain rfl := Oi hm
 refine Rt (Res.one results14 rfl) ?_
 exact ⟨rfl, hK.kp⟩
theorem slices_Clone_Lint_int_c (w : World) {A : Nat → Prop} (hA : ∀ b, w.heap.size ≤ b → A b) (s : (List Int)) (v_s : Value) (h_s : Sl A w v_s s) {r : (List Int)} (hm : slices_Clone_Lint_int s = some r) : Ret prog 76 #[v_s] w fun v w' => ∃ s0, v = s0 ∧ Ownd 3 w w' s0 r ∧ Kp Dw w w' := by
 unfold slices_Clone_Lint_int at hm
 refine enter func76 rfl ntmps76 rfl ?_
 have hA0 := hA
 obtain ⟨hB, hK, hH⟩ := St (Dw := Dw) hA
 rcases Sl.split h_s with ⟨rfl, rfl⟩ | ⟨a0, n0, c0, rfl⟩
 ·replace hm : some ([] : (List Int)) = some r := by simpa [appendL] using hm
  refine Sr (As (To ?_))
  refine C_seq (Sr (Mm (Vy (Y_eqlNilT rfl rfl underlying23) (To ?_))))
  refine Cc (fun hc => ?_) fun hc => ?_
  ·refine Sr (As (To ?_))
   obtain rfl := Oi hm
   replace hH : Hp w.heap.size A w (o_3 (.slice none 0 0) ([] : (List Int)) :: []) := Hp.addNil (α := Int) (e := 3) hH
   refine Rt (Res.one results76 rfl) ?_
   exact ⟨.slice none 0 0, rfl, (Hp.ownd hH (i := 0) rfl), hK.kp⟩
  exact absurd hc (by decide)
 refine Sr (As (To ?_))
 refine C_seq (Sr (Mm (Vy (Y_eqlNilF rfl rfl underlying23) (To ?_))))
 refine Cc (fun hc => ?_) fun hc => ?_
 ·exact absurd hc (by decide)
 refine Sk ?_
 refine Sr ?_
 refine V_buildOwn0H (Dw := Dw) (α := Int) hH underlying23 sizeOf3 hB hA rfl ?_
 intro v3 w4 A5 hH6 ht7
 replace h_s := Sl.tr h_s ht7; replace hK := Tt hK ht7; replace hB := Bx hB ht7; replace hA := ht7.new
 replace hH : Hp _ _ _ (o_3 v3 ([] : List Int) :: []) := hH6
 refine Mm ?_
 obtain ⟨x8, hx8, hm⟩ := Bs hm
 refine V_appendH (Dw := Dw) (e := 3) (v := v3) (l := ([] : List Int)) (ti := t3) (bytes := 8) (lim := 17592186044416) hH (i := 0) rfl h_s hx8 underlying23 Tryz_info3 rfl rfl rfl rfl (by decide) (by decide) (by decide) hB hA rfl rfl rfl ?_
 intro v9 w10 A11 hH12 ht13
 replace hK := Tt hK ht13
 replace hH : Hp _ _ _ (o_3 v9 x8 :: []) := hH12
 refine As (To ?_)
 obtain rfl := Oi hm
 refine Rt (Res.one results76 rfl) ?_
 exact ⟨v9, rfl, (Hp.ownd hH (i := 0) rfl), hK.kp⟩
def Tryz_cp85_ren : Go.Shelf.Ren := ⟨fun | 23 => 85 | n => n, fun | 0 => 0 | 1 => 1 | 2 => 2 | 3 => 3 | 4 => 4 | 5 => 5 | 6 => 6 | 7 => 7 | 8 => 8 | 9 => 9 | 10 => 10 | 11 => 11 | 12 => 12 | 13 => 13 | 14 => 14 | 15 => 15 | 16 => 16 | 17 => 17 | 18 => 18 | 19 => 19 | 20 => 20 | 21 => 21 | 22 => 23 | 23 => 174 | 24 => 73 | 26 => 183 | 28 => 152 | 29 => 188 | 33 => 150 | 34 => 151 | 36 => 79 | 37 => 194 | 38 => 76 | 40 => 191 | 41 => 192 | 42 => 193 | 43 => 208 | 44 => 176 | 45 => 252 | 46 => 239 | 47 => 284 | 48 => 285 | 49 => 286 | 50 => 287 | 51 => 288 | 52 => 289 | 53 => 219 | 54 => 290 | 55 => 291 | 56 => 292 | 57 => 264 | 58 => 293 | 59 => 294 | 60 => 295 | 61 => 296 | 62 => 272 | n => n, fun n => n⟩
theorem Tryz_cp85_lay : Go.Proofs.Lays2.n23 Tryz.prog Tryz_cp85_ren := {
  mixed := by kernel_rfl,
  f23 := Tryz.func85.trans (congrArg some (by kernel_rfl)),
  t0 := Tryz.underlying0,
  a0 := Tryz.isAgg0,
  z0 := Tryz.sizeOf0,
  v0 := Tryz.zeroValue0,
  t3 := Tryz.underlying3,
  a3 := Tryz.isAgg3,
  z3 := Tryz.sizeOf3,
  v3 := Tryz.zeroValue3,
  t4 := Tryz.underlying4,
  a4 := Tryz.isAgg4,
  z4 := Tryz.sizeOf4,
  v4 := Tryz.zeroValue4,
  t22 := Tryz.underlying23,
  a22 := Tryz.isAgg23,
  z22 := Tryz.sizeOf23,
  v22 := Tryz.zeroValue23,
  i3 := by kernel_rfl }
theorem Tryz_cp85 {l r : List Int} {B : Nat} {A : Nat → Prop} {w : World} {L : List Ob} {i : Nat} {p q : Int} {v : Value} (hH : Hp B A w L) (hi : L[i]? = some (o_3 v l)) (hB : B ≤ w.heap.size) (hA : ∀ b, w.heap.size ≤ b → A b) (hr : deleteIntsL l p q = some r) : Ret Tryz.prog 85 #[v, .int .i64 p, .int .i64 q] w fun u w' => ∃ v', u = v' ∧ Hp B A w' (L.set i (o_3 v' r)) ∧ Tr Dw B A w A w' :=
  Hp.deleteInts (Dw := Dw) (fun blk off cap i j zs w h1 h2 h3 h4 h5 => Go.Proofs.Any.slices_Delete_int Tryz_cp85_lay blk off cap i j zs w h1 h2 h3 h4 h5) hH hi hB hA hr
end Go.Proofs.YtldkdabcdbgpbaaGreatDoor.W
