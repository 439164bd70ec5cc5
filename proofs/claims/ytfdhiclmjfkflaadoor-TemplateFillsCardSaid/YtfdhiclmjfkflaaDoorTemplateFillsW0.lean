/-
  Written by program (gen.py) from the IR of the dump: each function computes its model.
-/
import Derived.Test.YtfdhiclmjfkflaaDoorProg
import Derived.Test.YtfdhiclmjfkflaaDoorGe
import Derived.Test.YtfdhiclmjfkflaaDoorTemplateFillsM
import Derived.KernelRfl
import Derived.Shelf.Strings.BuilderK
import Derived.Shelf.Strings.BuilderK
import Derived.Shelf.Strings.BuilderK
import Derived.Shelf.Strings.BuilderK
import Derived.Shelf.Strings.OnBuilder
import Derived.Shelf.Strings.Replace
import Derived.Shelf.Strings.SlTrimAscii
import Derived.Test.YtfdhiclmjfkflaaDoorGi
import Derived.Test.YtfdhiclmjfkflaaDoorHh
import Derived.Test.YtfdhiclmjfkflaaDoorGj
import Derived.Test.YtfdhiclmjfkflaaDoorGg
import Derived.Test.YtfdhiclmjfkflaaDoorGl
namespace Go.Proofs.YtfdhiclmjfkflaaDoor.W
open Go Go.RowKit Go.Pu Go.Gw Go.Proofs Go.Proofs.YtfdhiclmjfkflaaDoor.M
set_option linter.unusedVariables false
set_option linter.unusedSimpArgs false
variable {Dw : Prop}

theorem Tryd_info9 : Tryd.prog.info? 9 = some Tryd.t9 := by kernel_rfl
theorem Tryd_info38 : Tryd.prog.info? 38 = some Tryd.t38 := by kernel_rfl
theorem Tryd_info54 : Tryd.prog.info? 54 = some Tryd.t54 := by kernel_rfl
theorem Tryd_places38 : ∀ fs, Tryd.prog.underlying 38 = some (.struct fs) → ∀ w : World, (Array.mapM (fun (f : Field) => do pure (f.offset, ← Go.sizeOf f.type)) fs).run Tryd.prog w = .ok #[(0, 1), (1, 1), (2, 1), (3, 1)] w := by
  intro fs h w
  rw [Tryd.underlying38] at h
  cases h
  kernel_rfl
theorem Tryd_places54 : ∀ fs, Tryd.prog.underlying 54 = some (.struct fs) → ∀ w : World, (Array.mapM (fun (f : Field) => do pure (f.offset, ← Go.sizeOf f.type)) fs).run Tryd.prog w = .ok #[(0, 1), (1, 1), (2, 1), (3, 1), (4, 1)] w := by
  intro fs h w
  rw [Tryd.underlying54] at h
  cases h
  kernel_rfl
theorem Tryd_places72 : ∀ fs, Tryd.prog.underlying 72 = some (.struct fs) → ∀ w : World, (Array.mapM (fun (f : Field) => do pure (f.offset, ← Go.sizeOf f.type)) fs).run Tryd.prog w = .ok #[(0, 1), (1, 1), (2, 1)] w := by
  intro fs h w
  rw [Tryd.underlying72] at h
  cases h
  kernel_rfl
theorem Tryd_ext61 : Tryd.prog.funcs[61]? = some Tryd.f61 := by kernel_rfl
theorem Tryd_extn61 : Extern.findNext Tryd.f61 = none := by kernel_rfl
theorem Tryd_extf61 : Extern.find Tryd.f61 = some Extern.BytealgIndexByte.indexByte := by kernel_rfl
theorem Tryd_extb61 : (Tryd.f61.name == "runtime.NumGoroutine") = false ∧ Tryd.f61.body.isNone = true := by constructor <;> kernel_rfl
theorem Tryd_mixed : Tryd.prog.follows .mixedOrders = true := by kernel_rfl

instance : GoT know_Pair := GoT.of (β := ByteArray × ByteArray) fun x => (x.name, x.value)

instance : Flat know_Pair := ⟨fun {A w A1 w1 cs x} h => Flat.flat (α := ByteArray × ByteArray) (x := (x.name, x.value)) (A := A) (w := w) h⟩

theorem El_know_Pair_ {A : Nat → Prop} {w : World} {b off : Nat} {x : know_Pair} (h : El A w b off x) : El (α := ByteArray × ByteArray) A w b off (x.name, x.value) := h

theorem El_know_Pair_0 {A : Nat → Prop} {w : World} {b off : Nat} {x : know_Pair} (h : El A w b off x) : El A w b (off + 0) x.name := El.fst (El_know_Pair_ h)

theorem El_know_Pair_1 {A : Nat → Prop} {w : World} {b off : Nat} {x : know_Pair} (h : El A w b off x) : El A w b (off + 1) x.value := El.snd (El_know_Pair_ h)

theorem El_know_Pair {A : Nat → Prop} {w : World} {b off : Nat} {x : know_Pair} (h : El A w b off x) : At w b off [.string x.name, .string x.value] ∧ True := by
  obtain ⟨h1, h2, cs, h3, h4⟩ := h
  obtain ⟨_, _, rfl, rfl, rfl⟩ := h3
  exact ⟨h4, trivial⟩

instance : GoT know_field := GoT.of (β := ByteArray × UInt8 × ByteArray × ByteArray) fun x => (x.name, x.kind, x.one, x.two)

instance : Flat know_field := ⟨fun {A w A1 w1 cs x} h => Flat.flat (α := ByteArray × UInt8 × ByteArray × ByteArray) (x := (x.name, x.kind, x.one, x.two)) (A := A) (w := w) h⟩

theorem El_know_field_ {A : Nat → Prop} {w : World} {b off : Nat} {x : know_field} (h : El A w b off x) : El (α := ByteArray × UInt8 × ByteArray × ByteArray) A w b off (x.name, x.kind, x.one, x.two) := h

theorem El_know_field_0 {A : Nat → Prop} {w : World} {b off : Nat} {x : know_field} (h : El A w b off x) : El A w b (off + 0) x.name := El.fst (El_know_field_ h)

theorem El_know_field_1 {A : Nat → Prop} {w : World} {b off : Nat} {x : know_field} (h : El A w b off x) : El A w b (off + 1) x.kind := El.fst (El.snd (El_know_field_ h))

theorem El_know_field_2 {A : Nat → Prop} {w : World} {b off : Nat} {x : know_field} (h : El A w b off x) : El A w b (off + 2) x.one := El.fst (El.snd (El.snd (El_know_field_ h)))

theorem El_know_field_3 {A : Nat → Prop} {w : World} {b off : Nat} {x : know_field} (h : El A w b off x) : El A w b (off + 3) x.two := El.snd (El.snd (El.snd (El_know_field_ h)))

theorem El_know_field {A : Nat → Prop} {w : World} {b off : Nat} {x : know_field} (h : El A w b off x) : At w b off [.string x.name, .int .u8 (x.kind.toNat : Int), .string x.one, .string x.two] ∧ True := by
  obtain ⟨h1, h2, cs, h3, h4⟩ := h
  obtain ⟨_, _, rfl, rfl, ⟨_, _, rfl, rfl, ⟨_, _, rfl, rfl, rfl⟩⟩⟩ := h3
  exact ⟨h4, trivial⟩

instance : GoT know_templateReader := GoT.of (β := ByteArray × Int × Bool) fun x => (x.s, x.at_, x.wrong)

instance : Flat know_templateReader := ⟨fun {A w A1 w1 cs x} h => Flat.flat (α := ByteArray × Int × Bool) (x := (x.s, x.at_, x.wrong)) (A := A) (w := w) h⟩

theorem El_know_templateReader_ {A : Nat → Prop} {w : World} {b off : Nat} {x : know_templateReader} (h : El A w b off x) : El (α := ByteArray × Int × Bool) A w b off (x.s, x.at_, x.wrong) := h

theorem El_know_templateReader_0 {A : Nat → Prop} {w : World} {b off : Nat} {x : know_templateReader} (h : El A w b off x) : El A w b (off + 0) x.s := El.fst (El_know_templateReader_ h)

theorem El_know_templateReader_1 {A : Nat → Prop} {w : World} {b off : Nat} {x : know_templateReader} (h : El A w b off x) : El A w b (off + 1) x.at_ := El.fst (El.snd (El_know_templateReader_ h))

theorem El_know_templateReader_2 {A : Nat → Prop} {w : World} {b off : Nat} {x : know_templateReader} (h : El A w b off x) : El A w b (off + 2) x.wrong := El.snd (El.snd (El_know_templateReader_ h))

theorem El_know_templateReader {A : Nat → Prop} {w : World} {b off : Nat} {x : know_templateReader} (h : El A w b off x) : At w b off [.string x.s, .int .i64 x.at_, .bool x.wrong] ∧ True := by
  obtain ⟨h1, h2, cs, h3, h4⟩ := h
  obtain ⟨_, _, rfl, rfl, ⟨_, _, rfl, rfl, rfl⟩⟩ := h3
  exact ⟨h4, trivial⟩

instance : GoT portref2_piece := GoT.of (β := ByteArray × ByteArray × UInt8 × ByteArray × ByteArray) fun x => (x.text, x.name, x.kind, x.one, x.both)

instance : Flat portref2_piece := ⟨fun {A w A1 w1 cs x} h => Flat.flat (α := ByteArray × ByteArray × UInt8 × ByteArray × ByteArray) (x := (x.text, x.name, x.kind, x.one, x.both)) (A := A) (w := w) h⟩

theorem El_portref2_piece_ {A : Nat → Prop} {w : World} {b off : Nat} {x : portref2_piece} (h : El A w b off x) : El (α := ByteArray × ByteArray × UInt8 × ByteArray × ByteArray) A w b off (x.text, x.name, x.kind, x.one, x.both) := h

theorem El_portref2_piece_0 {A : Nat → Prop} {w : World} {b off : Nat} {x : portref2_piece} (h : El A w b off x) : El A w b (off + 0) x.text := El.fst (El_portref2_piece_ h)

theorem El_portref2_piece_1 {A : Nat → Prop} {w : World} {b off : Nat} {x : portref2_piece} (h : El A w b off x) : El A w b (off + 1) x.name := El.fst (El.snd (El_portref2_piece_ h))

theorem El_portref2_piece_2 {A : Nat → Prop} {w : World} {b off : Nat} {x : portref2_piece} (h : El A w b off x) : El A w b (off + 2) x.kind := El.fst (El.snd (El.snd (El_portref2_piece_ h)))

theorem El_portref2_piece_3 {A : Nat → Prop} {w : World} {b off : Nat} {x : portref2_piece} (h : El A w b off x) : El A w b (off + 3) x.one := El.fst (El.snd (El.snd (El.snd (El_portref2_piece_ h))))

theorem El_portref2_piece_4 {A : Nat → Prop} {w : World} {b off : Nat} {x : portref2_piece} (h : El A w b off x) : El A w b (off + 4) x.both := El.snd (El.snd (El.snd (El.snd (El_portref2_piece_ h))))

theorem El_portref2_piece {A : Nat → Prop} {w : World} {b off : Nat} {x : portref2_piece} (h : El A w b off x) : At w b off [.string x.text, .string x.name, .int .u8 (x.kind.toNat : Int), .string x.one, .string x.both] ∧ True := by
  obtain ⟨h1, h2, cs, h3, h4⟩ := h
  obtain ⟨_, _, rfl, rfl, ⟨_, _, rfl, rfl, ⟨_, _, rfl, rfl, ⟨_, _, rfl, rfl, rfl⟩⟩⟩⟩ := h3
  exact ⟨h4, trivial⟩

def Tryd_contains_lay_ren : Go.Shelf.Ren := ⟨fun | 15 => 29 | 17 => 18 | 20 => 48 | n => n, fun | 0 => 0 | 1 => 1 | 2 => 2 | 3 => 3 | 4 => 4 | 5 => 5 | 6 => 6 | 7 => 7 | 8 => 8 | 9 => 9 | 10 => 10 | 11 => 11 | 12 => 12 | 13 => 13 | 14 => 14 | 15 => 15 | 16 => 16 | 17 => 17 | 18 => 18 | 19 => 19 | 20 => 20 | 21 => 21 | 23 => 63 | 24 => 88 | 26 => 74 | 27 => 97 | 28 => 61 | 29 => 95 | 30 => 91 | 31 => 93 | 32 => 94 | 33 => 62 | 34 => 101 | 35 => 100 | 36 => 102 | 37 => 103 | 38 => 104 | 39 => 45 | 40 => 108 | 41 => 109 | 42 => 110 | 43 => 111 | 44 => 112 | 45 => 44 | 46 => 105 | 47 => 113 | 48 => 114 | 49 => 115 | 50 => 64 | 51 => 116 | 52 => 117 | 53 => 118 | 54 => 119 | 55 => 75 | n => n, fun | 0 => 1 | 1 => 2 | n => n⟩
theorem Tryd_contains_lay : Go.Proofs.LaysGw.n17 Tryd.prog Tryd_contains_lay_ren := {
  mixed := by kernel_rfl,
  f15 := Tryd.func29.trans (congrArg some (by kernel_rfl)),
  f17 := Tryd.func18.trans (congrArg some (by kernel_rfl)),
  f20 := Tryd.func48.trans (congrArg some (by kernel_rfl)),
  t0 := Tryd.underlying0,
  a0 := Tryd.isAgg0,
  z0 := Tryd.sizeOf0,
  v0 := Tryd.zeroValue0,
  i0 := by kernel_rfl,
  t3 := Tryd.underlying3,
  a3 := Tryd.isAgg3,
  z3 := Tryd.sizeOf3,
  v3 := Tryd.zeroValue3,
  i3 := by kernel_rfl,
  t4 := Tryd.underlying4,
  a4 := Tryd.isAgg4,
  z4 := Tryd.sizeOf4,
  v4 := Tryd.zeroValue4,
  i4 := by kernel_rfl,
  t9 := Tryd.underlying9,
  a9 := Tryd.isAgg9,
  z9 := Tryd.sizeOf9,
  v9 := Tryd.zeroValue9,
  i9 := by kernel_rfl,
  t21 := Tryd.underlying21,
  a21 := Tryd.isAgg21,
  z21 := Tryd.sizeOf21,
  v21 := Tryd.zeroValue21,
  i21 := by kernel_rfl,
  t23 := Tryd.underlying63,
  a23 := Tryd.isAgg63,
  z23 := Tryd.sizeOf63,
  v23 := Tryd.zeroValue63,
  i23 := by kernel_rfl }

set_option maxRecDepth 4000 in
set_option maxHeartbeats 4000000 in
theorem know_plain_c (w : World) (s : ByteArray) (feeds : Bool) {r : Bool} (hm : know_plain s feeds = some r) : Ret Tryd.prog 14 #[.string s, .bool feeds] w fun v w' => v = .bool r ∧ w = w' := by
  unfold know_plain at hm
  refine enter Tryd.func14 rfl Tryd.ntmps14 rfl ?_
  refine C_seq ?_
  refine C_region ?_
  refine V_y (Y_assign rfl) rfl rfl rfl ?_
  refine V_to (fun _ _ => rfl) ?_
  refine C_seq ?_
  refine C_seq ?_
  refine C_region ?_
  refine V_y (Y_move rfl) rfl rfl rfl ?_
  refine V_y (Y_lenStr rfl Tryd.underlying9 rfl) rfl rfl rfl ?_
  refine V_y (Y_move rfl) rfl rfl rfl ?_
  refine V_to (fun _ _ => rfl) ?_
  obtain ⟨o1, ho1, hm⟩ := Option.bind_eq_some_iff.1 hm
  refine C_cutG (ι := Int) (fun (s2 : Int) => []) (fun (s2 : Int) => fun w' => o1 = .fin s2 ∧ w = w') ?_ ?_
  · refine C_block ?_
    refine C_while ho1 (fun s8 a w' => ∃ i : Unit, Has ⟨32, [], none⟩ a ([(0, .string s), (1, .bool feeds), (7, .int .i64 (s.size : Int)), (8, .int .i64 s8)]) ∧ w = w') (fun a ha => ⟨(), ha.sub ⟨rfl, rfl, rfl, rfl, trivial⟩, rfl⟩) ?_
    rintro K s8 a _ ⟨_, ha28, rfl⟩ K16
    refine C_of ?_ ha28
    obtain ⟨x10, h11, h12⟩ := K16
    refine C_seq ?_
    refine C_region ?_
    refine V_y (Y_lss rfl rfl) rfl rfl rfl ?_
    refine V_to (fun _ _ => rfl) ?_
    refine C_seq ?_
    refine C_cond rfl (fun hc17 => ?_) (fun hc17 => ?_)
    · rw [if_pos hc17] at h11
      refine C_skip_to (fun _ _ => rfl) ?_
      refine C_seq ?_
      refine C_block ?_
      refine C_seq ?_
      refine C_region ?_
      refine V_y (Y_move rfl) rfl rfl rfl ?_
      refine V_y (Y_assign rfl) rfl rfl rfl ?_
      refine V_to (fun _ _ => rfl) ?_
      refine C_seq ?_
      refine C_region ?_
      refine V_y (Y_move rfl) rfl rfl rfl ?_
      refine V_y (Y_move rfl) rfl rfl rfl ?_
      obtain ⟨x18, hx18, h11⟩ := Option.bind_eq_some_iff.1 h11
      refine V_y (Y_indexS hx18 Tryd.underlying9 rfl rfl) rfl rfl rfl ?_
      refine V_y (Y_lss rfl rfl) rfl rfl rfl ?_
      refine V_y (Y_move rfl) rfl rfl rfl ?_
      obtain ⟨s20, hs20, h11⟩ := Option.bind_eq_some_iff.1 h11
      refine V_cut 5 (fun _ : Unit => [(0, .string s), (1, .bool feeds), (5, .int .i64 s8), (7, .int .i64 (s.size : Int)), (8, .int .i64 s8), (20, .bool s20)]) (fun _ w' => w = w') ?_ ?_
      · simp only [List.take, List.drop]
        rcases Bool.eq_false_or_eq_true (decide ((x18.toNat : Int) < 32)) with hc19 | hc19
        · rw [if_pos hc19] at hs20
          refine V_gn rfl rfl rfl hc19 rfl rfl rfl ?_
          refine V_gn rfl rfl rfl hc19 rfl rfl rfl ?_
          refine V_gn rfl rfl rfl hc19 rfl rfl rfl ?_
          refine V_gn rfl rfl rfl hc19 rfl rfl rfl ?_
          refine V_y (Y_pick_te rfl hc19 rfl) rfl rfl rfl ?_
          obtain rfl := Option.some.inj hs20
          exact V_end fun a ha => ⟨(), ha.sub ⟨rfl, rfl, rfl, rfl, rfl, rfl, trivial⟩, rfl⟩
        · rw [if_neg (nt hc19)] at hs20
          refine V_ge rfl rfl rfl hc19 ?_
          refine V_y (Y_move rfl) rfl rfl rfl ?_
          refine V_ge rfl rfl rfl hc19 ?_
          refine V_y (Y_move rfl) rfl rfl rfl ?_
          refine V_ge rfl rfl rfl hc19 ?_
          refine V_y (Y_indexS hx18 Tryd.underlying9 rfl rfl) rfl rfl rfl ?_
          refine V_ge rfl rfl rfl hc19 ?_
          refine V_y (Y_eql rfl rfl) rfl rfl rfl ?_
          refine V_y (Y_pick_fe rfl hc19 rfl) rfl rfl rfl ?_
          obtain rfl := Option.some.inj hs20
          exact V_end fun a ha => ⟨(), ha.sub ⟨rfl, rfl, rfl, rfl, rfl, rfl, trivial⟩, rfl⟩
      simp only [List.take, List.drop]
      rintro _ _ rfl
      refine V_y (Y_move rfl) rfl rfl rfl ?_
      obtain ⟨s22, hs22, h11⟩ := Option.bind_eq_some_iff.1 h11
      refine V_cut 9 (fun _ : Unit => [(0, .string s), (1, .bool feeds), (7, .int .i64 (s.size : Int)), (8, .int .i64 s8), (30, .bool s22)]) (fun _ w' => w = w') ?_ ?_
      · simp only [List.take, List.drop]
        rcases Bool.eq_false_or_eq_true (s20) with hc21 | hc21
        · rw [if_pos hc21] at hs22
          refine V_ge rfl rfl rfl hc21 ?_
          refine V_y (Y_move rfl) rfl rfl rfl ?_
          refine V_ge rfl rfl rfl hc21 ?_
          refine V_y (Y_move rfl) rfl rfl rfl ?_
          refine V_ge rfl rfl rfl hc21 ?_
          refine V_y (Y_indexS hx18 Tryd.underlying9 rfl rfl) rfl rfl rfl ?_
          refine V_ge rfl rfl rfl hc21 ?_
          refine V_y (Y_neq rfl rfl) rfl rfl rfl ?_
          refine V_ge rfl rfl rfl hc21 ?_
          refine V_y (Y_move rfl) rfl rfl rfl ?_
          refine V_cut 3 (fun _ : Unit => [(0, .string s), (1, .bool feeds), (7, .int .i64 (s.size : Int)), (8, .int .i64 s8), (21, .bool s20), (29, .bool (((x18.toNat : Int) != 10) || (!feeds)))]) (fun _ w' => w = w') ?_ ?_
          · simp only [List.take, List.drop]
            rcases Bool.eq_false_or_eq_true ((x18.toNat : Int) != 10) with hc23 | hc23
            · refine V_gn rfl rfl rfl hc23 rfl rfl rfl ?_
              refine V_gn rfl rfl rfl hc23 rfl rfl rfl ?_
              refine V_ge rfl rfl rfl hc21 ?_
              refine V_y (Y_pick_te rfl hc23 rfl) rfl rfl rfl ?_
              exact V_end fun a ha => ⟨(), ha.sub ⟨rfl, rfl, rfl, rfl, rfl, (by rw [hc23]; rfl), trivial⟩, rfl⟩
            · refine V_ge rfl rfl rfl hc23 ?_
              refine V_y (Y_move rfl) rfl rfl rfl ?_
              refine V_ge rfl rfl rfl hc23 ?_
              refine V_y (Y_not rfl) rfl rfl rfl ?_
              refine V_ge rfl rfl rfl hc21 ?_
              refine V_y (Y_pick_fe rfl hc23 rfl) rfl rfl rfl ?_
              exact V_end fun a ha => ⟨(), ha.sub ⟨rfl, rfl, rfl, rfl, rfl, (by rw [hc23]; rfl), trivial⟩, rfl⟩
          simp only [List.take, List.drop]
          rintro _ _ rfl
          refine V_y (Y_pick_te rfl hc21 rfl) rfl rfl rfl ?_
          obtain rfl := Option.some.inj hs22
          exact V_end fun a ha => ⟨(), ha.sub ⟨rfl, rfl, rfl, rfl, rfl, trivial⟩, rfl⟩
        · rw [if_neg (nt hc21)] at hs22
          refine V_gn rfl rfl rfl hc21 rfl rfl rfl ?_
          refine V_gn rfl rfl rfl hc21 rfl rfl rfl ?_
          refine V_gn rfl rfl rfl hc21 rfl rfl rfl ?_
          refine V_gn rfl rfl rfl hc21 rfl rfl rfl ?_
          refine V_gn rfl rfl rfl hc21 rfl rfl rfl ?_
          refine V_gu rfl rfl rfl rfl rfl ?_
          refine V_gu rfl rfl rfl rfl rfl ?_
          refine V_gn rfl rfl rfl hc21 rfl rfl rfl ?_
          refine V_y (Y_pick_fe rfl hc21 rfl) rfl rfl rfl ?_
          obtain rfl := Option.some.inj hs22
          exact V_end fun a ha => ⟨(), ha.sub ⟨rfl, rfl, rfl, rfl, rfl, trivial⟩, rfl⟩
      simp only [List.take, List.drop]
      rintro _ _ rfl
      refine V_to (fun _ _ => rfl) ?_
      refine C_cond rfl (fun hc25 => ?_) (fun hc25 => ?_)
      · rw [if_pos hc25] at h11
        refine C_seq ?_
        refine C_region ?_
        refine V_y (Y_assign rfl) rfl rfl rfl ?_
        refine V_to (fun _ _ => rfl) ?_
        obtain rfl := Option.some.inj h11
        obtain rfl := (h12 : Lp.rt _ = _)
        rw [Lp.andThen_rt] at hm
        obtain rfl := Option.some.inj hm
        refine C_ret ?_
        try simp only [↓inBlock_ret, ↓then_ret]
        exact retQ rfl (Res.one Tryd.results14 rfl) ⟨rfl, rfl⟩
      · rw [if_neg (nt hc25)] at h11
        refine C_skip_to (fun _ _ => rfl) ?_
        refine C_region ?_
        refine V_y (Y_addI rfl rfl) rfl rfl rfl ?_
        refine V_y (Y_move rfl) rfl rfl rfl ?_
        obtain rfl := Option.some.inj h11
        refine V_end (fun a ha26 => ?_)
        exact ⟨w64 (s8 + 1), h12, ⟨(), ha26.sub ⟨rfl, rfl, rfl, rfl, trivial⟩, rfl⟩⟩
    · rw [if_neg (nt hc17)] at h11
      obtain rfl := Option.some.inj h11
      refine C_exit (fun a ha27 => ?_)
      exact ⟨s8, ha27.sub trivial, ⟨h12.symm, rfl⟩⟩
  rintro s2 _ ⟨rfl, rfl⟩ a ha7
  rw [Lp.andThen_fin] at hm
  refine C_at (n := ⟨32, [], none⟩) (fun _ _ => rfl) ?_ ha7
  refine C_seq ?_
  refine C_region ?_
  refine V_y (Y_assign rfl) rfl rfl rfl ?_
  refine V_to (fun _ _ => rfl) ?_
  obtain rfl := Option.some.inj hm
  refine C_ret ?_
  try simp only [↓inBlock_ret, ↓then_ret]
  exact retQ rfl (Res.one Tryd.results14 rfl) ⟨rfl, rfl⟩

set_option maxRecDepth 4000 in
set_option maxHeartbeats 4000000 in
theorem internal_stringslite_IndexByte_c (w : World) (s : ByteArray) (c : Int) : Ret Tryd.prog 52 #[.string s, .int .u8 c] w fun v w' => v = .int .i64 (internal_stringslite_IndexByte s c) ∧ w = w' := by
  generalize hm : internal_stringslite_IndexByte s c = r
  unfold internal_stringslite_IndexByte at hm
  refine enter Tryd.func52 rfl Tryd.ntmps52 rfl ?_
  refine C_seq ?_
  refine C_region ?_
  refine V_y (Y_assign rfl) rfl rfl rfl ?_
  refine V_to (fun _ _ => rfl) ?_
  refine C_seq ?_
  refine C_region ?_
  refine V_y (Y_move rfl) rfl rfl rfl ?_
  refine V_y (Y_move rfl) rfl rfl rfl ?_
  refine V_y (Y_ext Tryd_ext61 Tryd_extb61.1 Tryd_extb61.2 Tryd_extn61 Tryd_extf61 rfl rfl (run_indexByteS _ _ _)) rfl rfl rfl ?_
  refine V_y (Y_assign rfl) rfl rfl rfl ?_
  refine V_to (fun _ _ => rfl) ?_
  obtain rfl := hm
  refine C_ret ?_
  try simp only [↓inBlock_ret, ↓then_ret]
  exact retQ rfl (Res.one Tryd.results52 rfl) ⟨rfl, rfl⟩

set_option maxRecDepth 4000 in
set_option maxHeartbeats 4000000 in
theorem strings_IndexByte_c (w : World) (s : ByteArray) (c : Int) : Ret Tryd.prog 34 #[.string s, .int .u8 c] w fun v w' => v = .int .i64 (strings_IndexByte s c) ∧ w = w' := by
  generalize hm : strings_IndexByte s c = r
  unfold strings_IndexByte at hm
  refine enter Tryd.func34 rfl Tryd.ntmps34 rfl ?_
  refine C_seq ?_
  refine C_region ?_
  refine V_y (Y_assign rfl) rfl rfl rfl ?_
  refine V_to (fun _ _ => rfl) ?_
  refine C_seq ?_
  refine C_region ?_
  refine V_y (Y_move rfl) rfl rfl rfl ?_
  refine V_y (Y_move rfl) rfl rfl rfl ?_
  refine V_call Tryd.call52 rfl rfl rfl rfl (internal_stringslite_IndexByte_c w s c) ?_
  rintro _ _ ⟨rfl, rfl⟩
  refine V_y (Y_assign rfl) rfl rfl rfl ?_
  refine V_to (fun _ _ => rfl) ?_
  obtain rfl := hm
  refine C_ret ?_
  try simp only [↓inBlock_ret, ↓then_ret]
  exact retQ rfl (Res.one Tryd.results34 rfl) ⟨rfl, rfl⟩

set_option maxRecDepth 4000 in
set_option maxHeartbeats 4000000 in
theorem know_templateReader_escaped_c (w : World) {A : Nat → Prop} {B : Nat} (hB : B ≤ w.heap.size) (hA : ∀ b, w.heap.size ≤ b → A b) (r_ : know_templateReader) (b_r_ : Nat) (some_ : ByteArray) {L : List Ob} (hH : Hp B A w (obC b_r_ [.string r_.s, .int .i64 r_.at_, .bool r_.wrong] 72 :: L)) {r : (ByteArray × know_templateReader)} (hm : know_templateReader_escaped r_ some_ = some r) : Ret Tryd.prog 44 #[.pointer (some ⟨b_r_, 0, none⟩), .string some_] w fun v w' => ∃ A1 : Nat → Prop, v = .string r.1 ∧ Hp B A1 w' (obC b_r_ [.string r.2.s, .int .i64 r.2.at_, .bool r.2.wrong] 72 :: L) ∧ Tr Dw B A w A1 w' := by
  unfold know_templateReader_escaped at hm
  refine enter Tryd.func44 rfl Tryd.ntmps44 rfl ?_
  have hK : Tr Dw B A w A w := Tr.refl (Dw := Dw) hA
  refine C_seq ?_
  refine C_region ?_
  refine V_y (Y_assign rfl) rfl rfl rfl ?_
  refine V_to (fun _ _ => rfl) ?_
  refine C_seq ?_
  refine C_region ?_
  refine V_y (Y_move rfl) rfl rfl rfl ?_
  refine V_y (Y_nilCheck rfl) rfl rfl rfl ?_
  refine V_y (Y_fieldAddrC (off2 := 1) Tryd.underlying72 rfl Tryd.sizeOf3 (by decide) rfl rfl) rfl rfl rfl ?_
  refine V_y (Y_load (Hp.cell (j := 1) hH (i := 0) rfl rfl) Tryd.isAgg3 rfl) rfl rfl rfl ?_
  refine V_y (Y_addI rfl rfl) rfl rfl rfl ?_
  refine V_y (Y_nilCheck rfl) rfl rfl rfl ?_
  refine V_y (Y_fieldAddrC (off2 := 1) Tryd.underlying72 rfl Tryd.sizeOf3 (by decide) rfl rfl) rfl rfl rfl ?_
  refine V_storeC (Dw := Dw) (off := 1) (ds := [.string r_.s, .int .i64 (w64 (r_.at_ + 1)), .bool r_.wrong]) hH (i := 0) rfl Tryd.sizeOf3 rfl (Nat.le_of_ble_eq_true rfl) (by simp [Value.cells, Value.oneCell']) rfl hB hA rfl rfl ?_
  intro w1 hH2 ht3
  replace hK := Tr.trans (Dw := Dw) hK ht3
  replace hB := Nat.le_trans hB ht3.ex.size
  replace hA := ht3.new
  replace hH : Hp B A w1 (obC b_r_ [.string r_.s, .int .i64 (w64 (r_.at_ + 1)), .bool r_.wrong] 72 :: L) := hH2
  refine V_to (fun _ _ => rfl) ?_
  refine C_seq ?_
  refine C_seq ?_
  refine C_region_q (Dw := Dw) Tryd_mixed (by kernel_rfl) ?_
  refine VQ_y (fun w' hw' => Y_move rfl) rfl rfl rfl ?_
  refine VQ_y (fun w' hw' => Y_nilCheck rfl) rfl rfl rfl ?_
  refine VQ_y (fun w' hw' => Y_fieldAddrC (off2 := 1) Tryd.underlying72 rfl Tryd.sizeOf3 (by decide) rfl rfl) rfl rfl rfl ?_
  refine VQ_y (fun w' hw' => Y_load ((World.cell?_of_block (hw'.block _ (World.block_lt_of_cell? _ _ (Hp.cell (j := 1) hH (i := 0) rfl rfl)))).trans (Hp.cell (j := 1) hH (i := 0) rfl rfl)) Tryd.isAgg3 rfl) rfl rfl rfl ?_
  refine VQ_y (fun w' hw' => Y_move rfl) rfl rfl rfl ?_
  refine VQ_y (fun w' hw' => Y_nilCheck rfl) rfl rfl rfl ?_
  refine VQ_y (fun w' hw' => Y_fieldAddrC (off2 := 0) Tryd.underlying72 rfl Tryd.sizeOf9 (by decide) rfl rfl) rfl rfl rfl ?_
  refine VQ_y (fun w' hw' => Y_load ((World.cell?_of_block (hw'.block _ (World.block_lt_of_cell? _ _ (Hp.cell (j := 0) hH (i := 0) rfl rfl)))).trans (Hp.cell (j := 0) hH (i := 0) rfl rfl)) Tryd.isAgg9 rfl) rfl rfl rfl ?_
  refine VQ_y (fun w' hw' => Y_lenStr rfl Tryd.underlying9 rfl) rfl rfl rfl ?_
  refine VQ_y (fun w' hw' => Y_eql rfl rfl) rfl rfl rfl ?_
  refine VQ_y (fun w' hw' => Y_move rfl) rfl rfl rfl ?_
  obtain ⟨s5, hs5, hm⟩ := Option.bind_eq_some_iff.1 hm
  refine VQ_cut 13 (fun _ : Unit => [(0, .pointer (some ⟨b_r_, 0, none⟩)), (35, .bool s5)]) (fun _ => True) ?_ ?_
  · simp only [List.take, List.drop]
    rcases Bool.eq_false_or_eq_true ((w64 (r_.at_ + 1)) == (r_.s.size : Int)) with hc4 | hc4
    · rw [if_pos hc4] at hs5
      refine VQ_gn rfl rfl rfl hc4 rfl rfl rfl ?_
      refine VQ_gn rfl rfl rfl hc4 rfl rfl rfl ?_
      refine VQ_gn rfl rfl rfl hc4 rfl rfl rfl ?_
      refine VQ_gn rfl rfl rfl hc4 rfl rfl rfl ?_
      refine VQ_gn rfl rfl rfl hc4 rfl rfl rfl ?_
      refine VQ_gn rfl rfl rfl hc4 rfl rfl rfl ?_
      refine VQ_gn rfl rfl rfl hc4 rfl rfl rfl ?_
      refine VQ_gn rfl rfl rfl hc4 rfl rfl rfl ?_
      refine VQ_gn rfl rfl rfl hc4 rfl rfl rfl ?_
      refine VQ_gn rfl rfl rfl hc4 rfl rfl rfl ?_
      refine VQ_gn rfl rfl rfl hc4 rfl rfl rfl ?_
      refine VQ_gn rfl rfl rfl hc4 rfl rfl rfl ?_
      refine VQ_y (fun _ _ => Y_pick_te rfl hc4 rfl) rfl rfl rfl ?_
      obtain rfl := Option.some.inj hs5
      exact VQ_end fun a ha => ⟨(), ha.sub ⟨rfl, rfl, trivial⟩, trivial⟩
    · rw [if_neg (nt hc4)] at hs5
      refine VQ_ge rfl rfl rfl hc4 ?_
      refine VQ_y (fun w' hw' => Y_move rfl) rfl rfl rfl ?_
      refine VQ_ge rfl rfl rfl hc4 ?_
      refine VQ_y (fun w' hw' => Y_move rfl) rfl rfl rfl ?_
      refine VQ_ge rfl rfl rfl hc4 ?_
      refine VQ_y (fun w' hw' => Y_nilCheck rfl) rfl rfl rfl ?_
      refine VQ_ge rfl rfl rfl hc4 ?_
      refine VQ_y (fun w' hw' => Y_fieldAddrC (off2 := 0) Tryd.underlying72 rfl Tryd.sizeOf9 (by decide) rfl rfl) rfl rfl rfl ?_
      refine VQ_ge rfl rfl rfl hc4 ?_
      refine VQ_y (fun w' hw' => Y_load ((World.cell?_of_block (hw'.block _ (World.block_lt_of_cell? _ _ (Hp.cell (j := 0) hH (i := 0) rfl rfl)))).trans (Hp.cell (j := 0) hH (i := 0) rfl rfl)) Tryd.isAgg9 rfl) rfl rfl rfl ?_
      refine VQ_ge rfl rfl rfl hc4 ?_
      refine VQ_y (fun w' hw' => Y_move rfl) rfl rfl rfl ?_
      refine VQ_ge rfl rfl rfl hc4 ?_
      refine VQ_y (fun w' hw' => Y_nilCheck rfl) rfl rfl rfl ?_
      refine VQ_ge rfl rfl rfl hc4 ?_
      refine VQ_y (fun w' hw' => Y_fieldAddrC (off2 := 1) Tryd.underlying72 rfl Tryd.sizeOf3 (by decide) rfl rfl) rfl rfl rfl ?_
      refine VQ_ge rfl rfl rfl hc4 ?_
      refine VQ_y (fun w' hw' => Y_load ((World.cell?_of_block (hw'.block _ (World.block_lt_of_cell? _ _ (Hp.cell (j := 1) hH (i := 0) rfl rfl)))).trans (Hp.cell (j := 1) hH (i := 0) rfl rfl)) Tryd.isAgg3 rfl) rfl rfl rfl ?_
      refine VQ_ge rfl rfl rfl hc4 ?_
      obtain ⟨x6, hx6, hs5⟩ := Option.bind_eq_some_iff.1 hs5
      refine VQ_y (fun w' hw' => Y_indexS hx6 Tryd.underlying9 rfl rfl) rfl rfl rfl ?_
      refine VQ_ge rfl rfl rfl hc4 ?_
      refine VQ_call (.int .i64 (strings_IndexByte some_ (x6.toNat : Int))) Tryd.call34 rfl rfl rfl rfl (fun w' hw' => (strings_IndexByte_c w' some_ (x6.toNat : Int)).mono (fun _ _ h => ⟨h.1, h.2 ▸ hw'⟩)) ?_
      refine VQ_ge rfl rfl rfl hc4 ?_
      refine VQ_y (fun w' hw' => Y_lss rfl rfl) rfl rfl rfl ?_
      refine VQ_y (fun _ _ => Y_pick_fe rfl hc4 rfl) rfl rfl rfl ?_
      obtain rfl := Option.some.inj hs5
      exact VQ_end fun a ha => ⟨(), ha.sub ⟨rfl, rfl, trivial⟩, trivial⟩
  simp only [List.take, List.drop]
  rintro _ _
  refine VQ_to (fun _ _ => rfl) (fun w7 hk8 => ?_)
  have ht9 := Kp.tr (Dw := Dw) hk8 hA hB
  replace hH := Hp.kp (Dw := Dw) hH hk8
  replace hK := Tr.trans (Dw := Dw) hK ht9
  replace hB := Nat.le_trans hB ht9.ex.size
  replace hA := ht9.new
  refine C_cond rfl (fun hc10 => ?_) (fun hc10 => ?_)
  · rw [if_pos hc10] at hm
    refine C_seq ?_
    refine C_region ?_
    refine V_y (Y_move rfl) rfl rfl rfl ?_
    refine V_y (Y_nilCheck rfl) rfl rfl rfl ?_
    refine V_y (Y_fieldAddrC (off2 := 2) Tryd.underlying72 rfl Tryd.sizeOf4 (by decide) rfl rfl) rfl rfl rfl ?_
    refine V_storeC (Dw := Dw) (off := 2) (ds := [.string r_.s, .int .i64 (w64 (r_.at_ + 1)), .bool true]) hH (i := 0) rfl Tryd.sizeOf4 rfl (Nat.le_of_ble_eq_true rfl) (by simp [Value.cells, Value.oneCell']) rfl hB hA rfl rfl ?_
    intro w11 hH12 ht13
    replace hK := Tr.trans (Dw := Dw) hK ht13
    replace hB := Nat.le_trans hB ht13.ex.size
    replace hA := ht13.new
    replace hH : Hp B A w11 (obC b_r_ [.string r_.s, .int .i64 (w64 (r_.at_ + 1)), .bool true] 72 :: L) := hH12
    refine V_to (fun _ _ => rfl) ?_
    refine C_seq ?_
    refine C_region ?_
    refine V_y (Y_assign rfl) rfl rfl rfl ?_
    refine V_to (fun _ _ => rfl) ?_
    obtain rfl := Option.some.inj hm
    refine C_ret ?_
    try simp only [↓inBlock_ret, ↓then_ret]
    exact retQ rfl (Res.one Tryd.results44 rfl) ⟨A, rfl, hH, hK⟩
  · rw [if_neg (nt hc10)] at hm
    refine C_skip_to (fun _ _ => rfl) ?_
    refine C_seq ?_
    refine C_region ?_
    refine V_y (Y_move rfl) rfl rfl rfl ?_
    refine V_y (Y_nilCheck rfl) rfl rfl rfl ?_
    refine V_y (Y_fieldAddrC (off2 := 1) Tryd.underlying72 rfl Tryd.sizeOf3 (by decide) rfl rfl) rfl rfl rfl ?_
    refine V_y (Y_load (Hp.cell (j := 1) hH (i := 0) rfl rfl) Tryd.isAgg3 rfl) rfl rfl rfl ?_
    refine V_y (Y_addI rfl rfl) rfl rfl rfl ?_
    refine V_y (Y_nilCheck rfl) rfl rfl rfl ?_
    refine V_y (Y_fieldAddrC (off2 := 1) Tryd.underlying72 rfl Tryd.sizeOf3 (by decide) rfl rfl) rfl rfl rfl ?_
    refine V_storeC (Dw := Dw) (off := 1) (ds := [.string r_.s, .int .i64 (w64 ((w64 (r_.at_ + 1)) + 1)), .bool r_.wrong]) hH (i := 0) rfl Tryd.sizeOf3 rfl (Nat.le_of_ble_eq_true rfl) (by simp [Value.cells, Value.oneCell']) rfl hB hA rfl rfl ?_
    intro w14 hH15 ht16
    replace hK := Tr.trans (Dw := Dw) hK ht16
    replace hB := Nat.le_trans hB ht16.ex.size
    replace hA := ht16.new
    replace hH : Hp B A w14 (obC b_r_ [.string r_.s, .int .i64 (w64 ((w64 (r_.at_ + 1)) + 1)), .bool r_.wrong] 72 :: L) := hH15
    refine V_to (fun _ _ => rfl) ?_
    refine C_seq ?_
    refine C_region_q (Dw := Dw) Tryd_mixed (by kernel_rfl) ?_
    refine VQ_y (fun w' hw' => Y_move rfl) rfl rfl rfl ?_
    refine VQ_y (fun w' hw' => Y_nilCheck rfl) rfl rfl rfl ?_
    refine VQ_y (fun w' hw' => Y_fieldAddrC (off2 := 0) Tryd.underlying72 rfl Tryd.sizeOf9 (by decide) rfl rfl) rfl rfl rfl ?_
    refine VQ_y (fun w' hw' => Y_load ((World.cell?_of_block (hw'.block _ (World.block_lt_of_cell? _ _ (Hp.cell (j := 0) hH (i := 0) rfl rfl)))).trans (Hp.cell (j := 0) hH (i := 0) rfl rfl)) Tryd.isAgg9 rfl) rfl rfl rfl ?_
    refine VQ_y (fun w' hw' => Y_move rfl) rfl rfl rfl ?_
    refine VQ_y (fun w' hw' => Y_nilCheck rfl) rfl rfl rfl ?_
    refine VQ_y (fun w' hw' => Y_fieldAddrC (off2 := 1) Tryd.underlying72 rfl Tryd.sizeOf3 (by decide) rfl rfl) rfl rfl rfl ?_
    refine VQ_y (fun w' hw' => Y_load ((World.cell?_of_block (hw'.block _ (World.block_lt_of_cell? _ _ (Hp.cell (j := 1) hH (i := 0) rfl rfl)))).trans (Hp.cell (j := 1) hH (i := 0) rfl rfl)) Tryd.isAgg3 rfl) rfl rfl rfl ?_
    refine VQ_y (fun w' hw' => Y_subI rfl rfl) rfl rfl rfl ?_
    refine VQ_y (fun w' hw' => Y_move rfl) rfl rfl rfl ?_
    refine VQ_y (fun w' hw' => Y_nilCheck rfl) rfl rfl rfl ?_
    refine VQ_y (fun w' hw' => Y_fieldAddrC (off2 := 1) Tryd.underlying72 rfl Tryd.sizeOf3 (by decide) rfl rfl) rfl rfl rfl ?_
    refine VQ_y (fun w' hw' => Y_load ((World.cell?_of_block (hw'.block _ (World.block_lt_of_cell? _ _ (Hp.cell (j := 1) hH (i := 0) rfl rfl)))).trans (Hp.cell (j := 1) hH (i := 0) rfl rfl)) Tryd.isAgg3 rfl) rfl rfl rfl ?_
    obtain ⟨x17, hx17, hm⟩ := Option.bind_eq_some_iff.1 hm
    refine VQ_y (fun w' hw' => Y_sliceSLH hx17 Tryd.underlying9 rfl rfl rfl) rfl rfl rfl ?_
    refine VQ_y (fun w' hw' => Y_assign rfl) rfl rfl rfl ?_
    refine VQ_to (fun _ _ => rfl) (fun w18 hk19 => ?_)
    have ht20 := Kp.tr (Dw := Dw) hk19 hA hB
    replace hH := Hp.kp (Dw := Dw) hH hk19
    replace hK := Tr.trans (Dw := Dw) hK ht20
    replace hB := Nat.le_trans hB ht20.ex.size
    replace hA := ht20.new
    obtain rfl := Option.some.inj hm
    refine C_ret ?_
    try simp only [↓inBlock_ret, ↓then_ret]
    exact retQ rfl (Res.one Tryd.results44 rfl) ⟨A, rfl, hH, hK⟩

def Tryd_strings_Builder_WriteString_lay_ren : Go.Shelf.Ren := ⟨fun | 166 => 8 | 240 => 21 | 276 => 31 | n => n, fun | 0 => 0 | 1 => 1 | 2 => 2 | 3 => 3 | 4 => 4 | 5 => 5 | 6 => 6 | 7 => 7 | 8 => 8 | 9 => 9 | 10 => 10 | 11 => 11 | 12 => 12 | 13 => 13 | 14 => 14 | 15 => 15 | 16 => 16 | 17 => 17 | 18 => 18 | 19 => 19 | 20 => 20 | 21 => 21 | 23 => 68 | 24 => 39 | 27 => 92 | 31 => 52 | 37 => 34 | 40 => 63 | 41 => 62 | 46 => 100 | 51 => 105 | 55 => 78 | 63 => 95 | 64 => 98 | 65 => 77 | 66 => 65 | 67 => 55 | 69 => 88 | 70 => 33 | 71 => 35 | 72 => 36 | 73 => 69 | 74 => 40 | 75 => 41 | 76 => 42 | 77 => 43 | 78 => 89 | 80 => 45 | 81 => 44 | 103 => 97 | 104 => 51 | 105 => 93 | 106 => 94 | 114 => 99 | 115 => 82 | 116 => 83 | 117 => 84 | 118 => 85 | 119 => 101 | 122 => 81 | 123 => 86 | 124 => 87 | 127 => 64 | 137 => 102 | 138 => 103 | 139 => 104 | 146 => 106 | 151 => 107 | 155 => 91 | 164 => 75 | 165 => 76 | 166 => 96 | 238 => 108 | 239 => 109 | 240 => 110 | 241 => 111 | 242 => 112 | 243 => 113 | 244 => 114 | 245 => 115 | 246 => 116 | 247 => 117 | 248 => 118 | 249 => 119 | n => n, fun | 1 => 0 | 3 => 1 | 4 => 2 | n => n⟩
theorem Tryd_strings_Builder_WriteString_lay : Go.Proofs.Lays.n166 Tryd.prog Tryd_strings_Builder_WriteString_lay_ren := {
  mixed := by kernel_rfl,
  f166 := Tryd.func8.trans (congrArg some (by kernel_rfl)),
  f240 := Tryd.func21.trans (congrArg some (by kernel_rfl)),
  f276 := Tryd.func31.trans (congrArg some (by kernel_rfl)),
  t0 := Tryd.underlying0,
  a0 := Tryd.isAgg0,
  z0 := Tryd.sizeOf0,
  v0 := Tryd.zeroValue0,
  t3 := Tryd.underlying3,
  a3 := Tryd.isAgg3,
  z3 := Tryd.sizeOf3,
  v3 := Tryd.zeroValue3,
  t4 := Tryd.underlying4,
  a4 := Tryd.isAgg4,
  z4 := Tryd.sizeOf4,
  v4 := Tryd.zeroValue4,
  t9 := Tryd.underlying9,
  a9 := Tryd.isAgg9,
  z9 := Tryd.sizeOf9,
  v9 := Tryd.zeroValue9,
  t20 := Tryd.underlying20,
  a20 := Tryd.isAgg20,
  z20 := Tryd.sizeOf20,
  v20 := Tryd.zeroValue20,
  t37 := Tryd.underlying34,
  a37 := Tryd.isAgg34,
  z37 := Tryd.sizeOf34,
  v37 := Tryd.zeroValue34,
  t70 := Tryd.underlying33,
  a70 := Tryd.isAgg33,
  z70 := Tryd.sizeOf33,
  v70 := Tryd.zeroValue33,
  t72 := Tryd.underlying36,
  a72 := Tryd.isAgg36,
  z72 := Tryd.sizeOf36,
  v72 := Tryd.zeroValue36,
  t75 := Tryd.underlying41,
  a75 := Tryd.isAgg41,
  z75 := Tryd.sizeOf41,
  v75 := Tryd.zeroValue41,
  t164 := Tryd.underlying75,
  a164 := Tryd.isAgg75,
  z164 := Tryd.sizeOf75,
  v164 := Tryd.zeroValue75 }
theorem Tryd_strings_Builder_WriteString_lay_x : Go.Proofs.Builder.Extra Tryd.prog Tryd_strings_Builder_WriteString_lay_ren := {
  sizeBuilder := by kernel_rfl
  liesBuilder := by kernel_rfl
  t5 := Tryd.underlying5
  a5 := Tryd.isAgg5
  z5 := Tryd.sizeOf5
  v5 := Tryd.zeroValue5
  infoByte := by kernel_rfl
  cellsByte := by kernel_rfl
  sizeByte := by kernel_rfl
  neB5 := (by decide : (36 : Nat) ≠ 5) }
theorem strings_Builder_WriteString_c (w : World) {A : Nat → Prop} {B : Nat} (hB : B ≤ w.heap.size) (hA : ∀ b, w.heap.size ≤ b → A b) (b : ByteArray) (b_b : Nat) (s : ByteArray) {L : List Ob} (hH : Hp B A w (obBd 36 5 b_b  b :: L)) {r : Int × Unit × ByteArray} (hm : strings_Builder_WriteString b s = some r) : Ret Tryd.prog 8 #[.pointer (some ⟨b_b, 0, none⟩), .string s] w fun v w' => ∃ A1 : Nat → Prop, v = .tuple #[.int .i64 r.1, .nilIface] ∧ Hp B A1 w' (obBd 36 5 b_b  r.2.2 :: L) ∧ Tr False B A w A1 w' := by
  unfold strings_Builder_WriteString at hm
  split at hm
  case isFalse => cases hm
  rename_i h
  obtain rfl := Option.some.inj hm
  exact Hp.bdWrite (ρ := Tryd_strings_Builder_WriteString_lay_ren) s (fun p v xs h1 h2 => bd_write Tryd_strings_Builder_WriteString_lay Tryd_strings_Builder_WriteString_lay_x b_b p v xs s w h1 h2) hB hA hH h

def Tryd_strings_Builder_WriteByte_lay_ren : Go.Shelf.Ren := ⟨fun | 167 => 45 | 240 => 21 | 276 => 31 | n => n, fun | 0 => 0 | 1 => 1 | 2 => 2 | 3 => 3 | 4 => 4 | 5 => 5 | 6 => 6 | 7 => 7 | 8 => 8 | 9 => 9 | 10 => 10 | 11 => 11 | 12 => 12 | 13 => 13 | 14 => 14 | 15 => 15 | 16 => 16 | 17 => 17 | 18 => 18 | 19 => 19 | 20 => 20 | 21 => 21 | 23 => 68 | 24 => 39 | 27 => 92 | 31 => 52 | 37 => 34 | 40 => 63 | 41 => 62 | 46 => 100 | 51 => 105 | 55 => 78 | 63 => 95 | 64 => 98 | 65 => 77 | 66 => 65 | 67 => 55 | 69 => 88 | 70 => 33 | 71 => 35 | 72 => 36 | 73 => 69 | 74 => 40 | 75 => 41 | 76 => 42 | 77 => 43 | 78 => 89 | 80 => 45 | 81 => 44 | 103 => 97 | 104 => 51 | 105 => 93 | 106 => 94 | 114 => 99 | 115 => 82 | 116 => 83 | 117 => 84 | 118 => 85 | 119 => 101 | 122 => 81 | 123 => 86 | 124 => 87 | 127 => 64 | 137 => 102 | 138 => 103 | 139 => 104 | 146 => 106 | 151 => 107 | 155 => 91 | 164 => 75 | 165 => 76 | 166 => 96 | 238 => 108 | 239 => 109 | 240 => 110 | 241 => 111 | 242 => 112 | 243 => 113 | 244 => 114 | 245 => 115 | 246 => 116 | 247 => 117 | 248 => 118 | 249 => 119 | n => n, fun | 1 => 0 | 3 => 1 | 4 => 2 | n => n⟩
theorem Tryd_strings_Builder_WriteByte_lay : Go.Proofs.Lays.n167 Tryd.prog Tryd_strings_Builder_WriteByte_lay_ren := {
  mixed := by kernel_rfl,
  f167 := Tryd.func45.trans (congrArg some (by kernel_rfl)),
  f240 := Tryd.func21.trans (congrArg some (by kernel_rfl)),
  f276 := Tryd.func31.trans (congrArg some (by kernel_rfl)),
  t0 := Tryd.underlying0,
  a0 := Tryd.isAgg0,
  z0 := Tryd.sizeOf0,
  v0 := Tryd.zeroValue0,
  t4 := Tryd.underlying4,
  a4 := Tryd.isAgg4,
  z4 := Tryd.sizeOf4,
  v4 := Tryd.zeroValue4,
  t5 := Tryd.underlying5,
  a5 := Tryd.isAgg5,
  z5 := Tryd.sizeOf5,
  v5 := Tryd.zeroValue5,
  t9 := Tryd.underlying9,
  a9 := Tryd.isAgg9,
  z9 := Tryd.sizeOf9,
  v9 := Tryd.zeroValue9,
  t20 := Tryd.underlying20,
  a20 := Tryd.isAgg20,
  z20 := Tryd.sizeOf20,
  v20 := Tryd.zeroValue20,
  t37 := Tryd.underlying34,
  a37 := Tryd.isAgg34,
  z37 := Tryd.sizeOf34,
  v37 := Tryd.zeroValue34,
  t70 := Tryd.underlying33,
  a70 := Tryd.isAgg33,
  z70 := Tryd.sizeOf33,
  v70 := Tryd.zeroValue33,
  t72 := Tryd.underlying36,
  a72 := Tryd.isAgg36,
  z72 := Tryd.sizeOf36,
  v72 := Tryd.zeroValue36,
  t75 := Tryd.underlying41,
  a75 := Tryd.isAgg41,
  z75 := Tryd.sizeOf41,
  v75 := Tryd.zeroValue41,
  t164 := Tryd.underlying75,
  a164 := Tryd.isAgg75,
  z164 := Tryd.sizeOf75,
  v164 := Tryd.zeroValue75 }
theorem Tryd_strings_Builder_WriteByte_lay_x : Go.Proofs.Builder.Extra Tryd.prog Tryd_strings_Builder_WriteByte_lay_ren := {
  sizeBuilder := by kernel_rfl
  liesBuilder := by kernel_rfl
  t5 := Tryd.underlying5
  a5 := Tryd.isAgg5
  z5 := Tryd.sizeOf5
  v5 := Tryd.zeroValue5
  infoByte := by kernel_rfl
  cellsByte := by kernel_rfl
  sizeByte := by kernel_rfl
  neB5 := (by decide : (36 : Nat) ≠ 5) }
theorem strings_Builder_WriteByte_c (w : World) {A : Nat → Prop} {B : Nat} (hB : B ≤ w.heap.size) (hA : ∀ b, w.heap.size ≤ b → A b) (b : ByteArray) (b_b : Nat) (c : UInt8) {L : List Ob} (hH : Hp B A w (obBd 36 5 b_b  b :: L)) {r : Unit × ByteArray} (hm : strings_Builder_WriteByte b c = some r) : Ret Tryd.prog 45 #[.pointer (some ⟨b_b, 0, none⟩), .int .u8 c.toNat] w fun v w' => ∃ A1 : Nat → Prop, v = .nilIface ∧ Hp B A1 w' (obBd 36 5 b_b  r.2 :: L) ∧ Tr False B A w A1 w' := by
  unfold strings_Builder_WriteByte at hm
  split at hm
  case isFalse => cases hm
  rename_i h
  obtain rfl := Option.some.inj hm
  exact Hp.bdByte (ρ := Tryd_strings_Builder_WriteByte_lay_ren) c (fun p v xs h1 h2 => bd_byte Tryd_strings_Builder_WriteByte_lay Tryd_strings_Builder_WriteByte_lay_x b_b p v xs c.toNat w h1 h2) hB hA hH h

def Tryd_strings_Builder_String_lay_ren : Go.Shelf.Ren := ⟨fun | 169 => 10 | n => n, fun | 0 => 0 | 1 => 1 | 2 => 2 | 3 => 3 | 4 => 4 | 5 => 5 | 6 => 6 | 7 => 7 | 8 => 8 | 9 => 9 | 10 => 10 | 11 => 11 | 12 => 12 | 13 => 13 | 14 => 14 | 15 => 15 | 16 => 16 | 17 => 17 | 18 => 18 | 19 => 19 | 20 => 20 | 21 => 21 | 23 => 68 | 24 => 39 | 27 => 92 | 31 => 52 | 37 => 34 | 40 => 63 | 41 => 62 | 46 => 100 | 51 => 105 | 55 => 78 | 63 => 95 | 64 => 98 | 65 => 77 | 66 => 65 | 67 => 55 | 69 => 88 | 70 => 33 | 71 => 35 | 72 => 36 | 73 => 69 | 74 => 40 | 75 => 41 | 76 => 42 | 77 => 43 | 78 => 89 | 80 => 45 | 81 => 44 | 103 => 97 | 104 => 51 | 105 => 93 | 106 => 94 | 114 => 99 | 115 => 82 | 116 => 83 | 117 => 84 | 118 => 85 | 119 => 101 | 122 => 81 | 123 => 86 | 124 => 87 | 127 => 64 | 137 => 102 | 138 => 103 | 139 => 104 | 146 => 106 | 151 => 107 | 155 => 91 | 164 => 75 | 165 => 76 | 166 => 96 | 238 => 108 | 239 => 109 | 240 => 110 | 241 => 111 | 242 => 112 | 243 => 113 | 244 => 114 | 245 => 115 | 246 => 116 | 247 => 117 | 248 => 118 | 249 => 119 | n => n, fun | 1 => 0 | 3 => 1 | 4 => 2 | n => n⟩
theorem Tryd_strings_Builder_String_lay : Go.Proofs.Lays.n169 Tryd.prog Tryd_strings_Builder_String_lay_ren := {
  mixed := by kernel_rfl,
  f169 := Tryd.func10.trans (congrArg some (by kernel_rfl)),
  t0 := Tryd.underlying0,
  a0 := Tryd.isAgg0,
  z0 := Tryd.sizeOf0,
  v0 := Tryd.zeroValue0,
  t3 := Tryd.underlying3,
  a3 := Tryd.isAgg3,
  z3 := Tryd.sizeOf3,
  v3 := Tryd.zeroValue3,
  t9 := Tryd.underlying9,
  a9 := Tryd.isAgg9,
  z9 := Tryd.sizeOf9,
  v9 := Tryd.zeroValue9,
  t37 := Tryd.underlying34,
  a37 := Tryd.isAgg34,
  z37 := Tryd.sizeOf34,
  v37 := Tryd.zeroValue34,
  t70 := Tryd.underlying33,
  a70 := Tryd.isAgg33,
  z70 := Tryd.sizeOf33,
  v70 := Tryd.zeroValue33,
  t72 := Tryd.underlying36,
  a72 := Tryd.isAgg36,
  z72 := Tryd.sizeOf36,
  v72 := Tryd.zeroValue36,
  t127 := Tryd.underlying64,
  a127 := Tryd.isAgg64,
  z127 := Tryd.sizeOf64,
  v127 := Tryd.zeroValue64 }
theorem Tryd_strings_Builder_String_lay_x : Go.Proofs.Builder.Extra Tryd.prog Tryd_strings_Builder_String_lay_ren := {
  sizeBuilder := by kernel_rfl
  liesBuilder := by kernel_rfl
  t5 := Tryd.underlying5
  a5 := Tryd.isAgg5
  z5 := Tryd.sizeOf5
  v5 := Tryd.zeroValue5
  infoByte := by kernel_rfl
  cellsByte := by kernel_rfl
  sizeByte := by kernel_rfl
  neB5 := (by decide : (36 : Nat) ≠ 5) }
theorem strings_Builder_String_c (w : World) {A : Nat → Prop} {B : Nat} (hB : B ≤ w.heap.size) (hA : ∀ b, w.heap.size ≤ b → A b) (b : ByteArray) (b_b : Nat) {L : List Ob} (hH : Hp B A w (obBd 36 5 b_b  b :: L)) {r : ByteArray} (hm : strings_Builder_String b = some r) : Ret Tryd.prog 10 #[.pointer (some ⟨b_b, 0, none⟩)] w fun v w' => ∃ A1 : Nat → Prop, v = .string r ∧ Hp B A1 w' (obBd 36 5 b_b  b :: L) ∧ Tr False B A w A1 w' := by
  unfold strings_Builder_String at hm
  obtain rfl := Option.some.inj hm
  exact Hp.bdString (ρ := Tryd_strings_Builder_String_lay_ren) (fun p v l h1 => bd_string Tryd_strings_Builder_String_lay Tryd_strings_Builder_String_lay_x b_b p v l w h1) hB hA hH

set_option maxRecDepth 4000 in
set_option maxHeartbeats 4000000 in
theorem know_templateReader_text_c (w : World) {A : Nat → Prop} {B : Nat} (hB : B ≤ w.heap.size) (hA : ∀ b, w.heap.size ≤ b → A b) (r_ : know_templateReader) (b_r_ : Nat) {L : List Ob} (hH : Hp B A w (obC b_r_ [.string r_.s, .int .i64 r_.at_, .bool r_.wrong] 72 :: L)) {r : (ByteArray × know_templateReader)} (hm : know_templateReader_text r_ = some r) : Ret Tryd.prog 27 #[.pointer (some ⟨b_r_, 0, none⟩)] w fun v w' => ∃ A1 : Nat → Prop, v = .string r.1 ∧ Hp B A1 w' (obC b_r_ [.string r.2.s, .int .i64 r.2.at_, .bool r.2.wrong] 72 :: L) ∧ Tr False B A w A1 w' := by
  unfold know_templateReader_text at hm
  refine enter Tryd.func27 rfl Tryd.ntmps27 rfl ?_
  have hK : Tr False B A w A w := Tr.refl (Dw := False) hA
  refine C_seq ?_
  refine C_region ?_
  refine V_y (Y_assign rfl) rfl rfl rfl ?_
  refine V_to (fun _ _ => rfl) ?_
  refine C_seq ?_
  refine C_region ?_
  refine V_allocH (Dw := False) (B := B) hH Tryd.zeroValue36 hB hA rfl ?_
  intro b1 w2 A3 hH4 ht5
  replace hH4 := Hp.bdOf (e := 5) hH4
  replace hK := Tr.trans (Dw := False) hK ht5
  replace hB := Nat.le_trans hB ht5.ex.size
  replace hA := ht5.new
  replace hH : Hp B A3 w2 (obBd 36 5 b1 ByteArray.empty :: obC b_r_ [.string r_.s, .int .i64 r_.at_, .bool r_.wrong] 72 :: L) := hH4
  refine V_to (fun _ _ => rfl) ?_
  refine C_seq ?_
  obtain ⟨o6, ho6, hm⟩ := Option.bind_eq_some_iff.1 hm
  refine C_cutG (ι := ((ByteArray × know_templateReader) × (Nat → Prop))) (fun ⟨s7, A13⟩ => [(3, .pointer (some ⟨b1, 0, none⟩))]) (fun ⟨s7, A13⟩ => fun w' => o6 = .fin s7 ∧ Hp B A13 w' (obBd 36 5 b1 s7.1 :: obC b_r_ [.string s7.2.s, .int .i64 s7.2.at_, .bool s7.2.wrong] 72 :: L) ∧ Tr False B A3 w2 A13 w') ?_ ?_
  · refine C_block ?_
    refine C_while ho6 (fun s15 a w' => ∃ i : (Nat → Prop), Has ⟨64, [], none⟩ a ([(0, .pointer (some ⟨b_r_, 0, none⟩)), (3, .pointer (some ⟨b1, 0, none⟩))]) ∧ Hp B i w' (obBd 36 5 b1 s15.1 :: obC b_r_ [.string s15.2.s, .int .i64 s15.2.at_, .bool s15.2.wrong] 72 :: L) ∧ Tr False B A3 w2 i w') (fun a ha => ⟨A3, ha.sub ⟨rfl, rfl, trivial⟩, ⟨hH, Tr.refl (Dw := False) hA⟩⟩) ?_
    rintro K s15 a w17 ⟨A18, ha75, hH19, hr8⟩ K26
    refine C_of ?_ ha75
    replace hK := Tr.trans (Dw := False) hK hr8
    replace hB := Nat.le_trans hB hr8.ex.size
    replace hA := hr8.new
    replace hH : Hp B A18 w17 (obBd 36 5 b1 s15.1 :: obC b_r_ [.string s15.2.s, .int .i64 s15.2.at_, .bool s15.2.wrong] 72 :: L) := hH19
    obtain ⟨x20, h21, h22⟩ := K26
    refine C_seq ?_
    refine C_seq ?_
    refine C_region_q (Dw := False) Tryd_mixed (by kernel_rfl) ?_
    refine VQ_y (fun w' hw' => Y_move rfl) rfl rfl rfl ?_
    refine VQ_y (fun w' hw' => Y_nilCheck rfl) rfl rfl rfl ?_
    refine VQ_y (fun w' hw' => Y_fieldAddrC (off2 := 2) Tryd.underlying72 rfl Tryd.sizeOf4 (by decide) rfl rfl) rfl rfl rfl ?_
    refine VQ_y (fun w' hw' => Y_load ((World.cell?_of_block (hw'.block _ (World.block_lt_of_cell? _ _ (Hp.cell (j := 2) hH (i := 1) rfl rfl)))).trans (Hp.cell (j := 2) hH (i := 1) rfl rfl)) Tryd.isAgg4 rfl) rfl rfl rfl ?_
    refine VQ_y (fun w' hw' => Y_not rfl) rfl rfl rfl ?_
    refine VQ_y (fun w' hw' => Y_move rfl) rfl rfl rfl ?_
    refine VQ_cut 11 (fun _ : Unit => [(0, .pointer (some ⟨b_r_, 0, none⟩)), (3, .pointer (some ⟨b1, 0, none⟩)), (20, .bool ((!s15.2.wrong) && (decide (s15.2.at_ < (s15.2.s.size : Int)))))]) (fun _ => True) ?_ ?_
    · simp only [List.take, List.drop]
      rcases Bool.eq_false_or_eq_true (!s15.2.wrong) with hc27 | hc27
      · refine VQ_ge rfl rfl rfl hc27 ?_
        refine VQ_y (fun w' hw' => Y_move rfl) rfl rfl rfl ?_
        refine VQ_ge rfl rfl rfl hc27 ?_
        refine VQ_y (fun w' hw' => Y_nilCheck rfl) rfl rfl rfl ?_
        refine VQ_ge rfl rfl rfl hc27 ?_
        refine VQ_y (fun w' hw' => Y_fieldAddrC (off2 := 1) Tryd.underlying72 rfl Tryd.sizeOf3 (by decide) rfl rfl) rfl rfl rfl ?_
        refine VQ_ge rfl rfl rfl hc27 ?_
        refine VQ_y (fun w' hw' => Y_load ((World.cell?_of_block (hw'.block _ (World.block_lt_of_cell? _ _ (Hp.cell (j := 1) hH (i := 1) rfl rfl)))).trans (Hp.cell (j := 1) hH (i := 1) rfl rfl)) Tryd.isAgg3 rfl) rfl rfl rfl ?_
        refine VQ_ge rfl rfl rfl hc27 ?_
        refine VQ_y (fun w' hw' => Y_move rfl) rfl rfl rfl ?_
        refine VQ_ge rfl rfl rfl hc27 ?_
        refine VQ_y (fun w' hw' => Y_nilCheck rfl) rfl rfl rfl ?_
        refine VQ_ge rfl rfl rfl hc27 ?_
        refine VQ_y (fun w' hw' => Y_fieldAddrC (off2 := 0) Tryd.underlying72 rfl Tryd.sizeOf9 (by decide) rfl rfl) rfl rfl rfl ?_
        refine VQ_ge rfl rfl rfl hc27 ?_
        refine VQ_y (fun w' hw' => Y_load ((World.cell?_of_block (hw'.block _ (World.block_lt_of_cell? _ _ (Hp.cell (j := 0) hH (i := 1) rfl rfl)))).trans (Hp.cell (j := 0) hH (i := 1) rfl rfl)) Tryd.isAgg9 rfl) rfl rfl rfl ?_
        refine VQ_ge rfl rfl rfl hc27 ?_
        refine VQ_y (fun w' hw' => Y_lenStr rfl Tryd.underlying9 rfl) rfl rfl rfl ?_
        refine VQ_ge rfl rfl rfl hc27 ?_
        refine VQ_y (fun w' hw' => Y_lss rfl rfl) rfl rfl rfl ?_
        refine VQ_y (fun _ _ => Y_pick_te rfl hc27 rfl) rfl rfl rfl ?_
        exact VQ_end fun a ha => ⟨(), ha.sub ⟨rfl, rfl, (by rw [hc27]; rfl), trivial⟩, trivial⟩
      · refine VQ_gn rfl rfl rfl hc27 rfl rfl rfl ?_
        refine VQ_gn rfl rfl rfl hc27 rfl rfl rfl ?_
        refine VQ_gn rfl rfl rfl hc27 rfl rfl rfl ?_
        refine VQ_gn rfl rfl rfl hc27 rfl rfl rfl ?_
        refine VQ_gn rfl rfl rfl hc27 rfl rfl rfl ?_
        refine VQ_gn rfl rfl rfl hc27 rfl rfl rfl ?_
        refine VQ_gn rfl rfl rfl hc27 rfl rfl rfl ?_
        refine VQ_gn rfl rfl rfl hc27 rfl rfl rfl ?_
        refine VQ_gn rfl rfl rfl hc27 rfl rfl rfl ?_
        refine VQ_gn rfl rfl rfl hc27 rfl rfl rfl ?_
        refine VQ_y (fun _ _ => Y_pick_fe rfl hc27 rfl) rfl rfl rfl ?_
        exact VQ_end fun a ha => ⟨(), ha.sub ⟨rfl, rfl, (by rw [hc27]; rfl), trivial⟩, trivial⟩
    simp only [List.take, List.drop]
    rintro _ _
    refine VQ_y (fun w' hw' => Y_move rfl) rfl rfl rfl ?_
    obtain ⟨s30, hs30, h21⟩ := Option.bind_eq_some_iff.1 h21
    refine VQ_cut 11 (fun _ : Unit => [(0, .pointer (some ⟨b_r_, 0, none⟩)), (3, .pointer (some ⟨b1, 0, none⟩)), (32, .bool s30)]) (fun _ => True) ?_ ?_
    · simp only [List.take, List.drop]
      rcases Bool.eq_false_or_eq_true (((!s15.2.wrong) && (decide (s15.2.at_ < (s15.2.s.size : Int))))) with hc29 | hc29
      · rw [if_pos hc29] at hs30
        refine VQ_ge rfl rfl rfl hc29 ?_
        refine VQ_y (fun w' hw' => Y_move rfl) rfl rfl rfl ?_
        refine VQ_ge rfl rfl rfl hc29 ?_
        refine VQ_y (fun w' hw' => Y_nilCheck rfl) rfl rfl rfl ?_
        refine VQ_ge rfl rfl rfl hc29 ?_
        refine VQ_y (fun w' hw' => Y_fieldAddrC (off2 := 0) Tryd.underlying72 rfl Tryd.sizeOf9 (by decide) rfl rfl) rfl rfl rfl ?_
        refine VQ_ge rfl rfl rfl hc29 ?_
        refine VQ_y (fun w' hw' => Y_load ((World.cell?_of_block (hw'.block _ (World.block_lt_of_cell? _ _ (Hp.cell (j := 0) hH (i := 1) rfl rfl)))).trans (Hp.cell (j := 0) hH (i := 1) rfl rfl)) Tryd.isAgg9 rfl) rfl rfl rfl ?_
        refine VQ_ge rfl rfl rfl hc29 ?_
        refine VQ_y (fun w' hw' => Y_move rfl) rfl rfl rfl ?_
        refine VQ_ge rfl rfl rfl hc29 ?_
        refine VQ_y (fun w' hw' => Y_nilCheck rfl) rfl rfl rfl ?_
        refine VQ_ge rfl rfl rfl hc29 ?_
        refine VQ_y (fun w' hw' => Y_fieldAddrC (off2 := 1) Tryd.underlying72 rfl Tryd.sizeOf3 (by decide) rfl rfl) rfl rfl rfl ?_
        refine VQ_ge rfl rfl rfl hc29 ?_
        refine VQ_y (fun w' hw' => Y_load ((World.cell?_of_block (hw'.block _ (World.block_lt_of_cell? _ _ (Hp.cell (j := 1) hH (i := 1) rfl rfl)))).trans (Hp.cell (j := 1) hH (i := 1) rfl rfl)) Tryd.isAgg3 rfl) rfl rfl rfl ?_
        refine VQ_ge rfl rfl rfl hc29 ?_
        obtain ⟨x31, hx31, hs30⟩ := Option.bind_eq_some_iff.1 hs30
        refine VQ_y (fun w' hw' => Y_indexS hx31 Tryd.underlying9 rfl rfl) rfl rfl rfl ?_
        refine VQ_ge rfl rfl rfl hc29 ?_
        refine VQ_y (fun w' hw' => Y_neq rfl rfl) rfl rfl rfl ?_
        refine VQ_y (fun _ _ => Y_pick_te rfl hc29 rfl) rfl rfl rfl ?_
        obtain rfl := Option.some.inj hs30
        exact VQ_end fun a ha => ⟨(), ha.sub ⟨rfl, rfl, rfl, trivial⟩, trivial⟩
      · rw [if_neg (nt hc29)] at hs30
        refine VQ_gn rfl rfl rfl hc29 rfl rfl rfl ?_
        refine VQ_gn rfl rfl rfl hc29 rfl rfl rfl ?_
        refine VQ_gn rfl rfl rfl hc29 rfl rfl rfl ?_
        refine VQ_gn rfl rfl rfl hc29 rfl rfl rfl ?_
        refine VQ_gn rfl rfl rfl hc29 rfl rfl rfl ?_
        refine VQ_gn rfl rfl rfl hc29 rfl rfl rfl ?_
        refine VQ_gn rfl rfl rfl hc29 rfl rfl rfl ?_
        refine VQ_gn rfl rfl rfl hc29 rfl rfl rfl ?_
        refine VQ_gn rfl rfl rfl hc29 rfl rfl rfl ?_
        refine VQ_gn rfl rfl rfl hc29 rfl rfl rfl ?_
        refine VQ_y (fun _ _ => Y_pick_fe rfl hc29 rfl) rfl rfl rfl ?_
        obtain rfl := Option.some.inj hs30
        exact VQ_end fun a ha => ⟨(), ha.sub ⟨rfl, rfl, rfl, trivial⟩, trivial⟩
    simp only [List.take, List.drop]
    rintro _ _
    refine VQ_to (fun _ _ => rfl) (fun w33 hk34 => ?_)
    have ht35 := Kp.tr (Dw := False) hk34 hA hB
    replace hH := Hp.kp (Dw := False) hH hk34
    replace hK := Tr.trans (Dw := False) hK ht35
    replace hr8 := Tr.trans (Dw := False) hr8 ht35
    replace hB := Nat.le_trans hB ht35.ex.size
    replace hA := ht35.new
    refine C_cond rfl (fun hc36 => ?_) (fun hc36 => ?_)
    · rw [if_pos hc36] at h21
      refine C_skip_to (fun _ _ => rfl) ?_
      obtain ⟨s38, ho37, h21⟩ := Option.bind_eq_some_iff.1 h21
      refine C_cutG (ι := (Nat → Prop)) (fun (A43 : (Nat → Prop)) => [(0, .pointer (some ⟨b_r_, 0, none⟩)), (3, .pointer (some ⟨b1, 0, none⟩))]) (fun (A43 : (Nat → Prop)) => fun w' => Hp B A43 w' (obBd 36 5 b1 s38.1 :: obC b_r_ [.string s38.2.s, .int .i64 s38.2.at_, .bool s38.2.wrong] 72 :: L) ∧ Tr False B A18 w33 A43 w') ?_ ?_
      · have hr39 : Tr False B A18 w33 A18 w33 := Tr.refl (Dw := False) hA
        refine C_block ?_
        refine C_seq ?_
        refine C_seq ?_
        refine C_region_q (Dw := False) Tryd_mixed (by kernel_rfl) ?_
        refine VQ_y (fun w' hw' => Y_move rfl) rfl rfl rfl ?_
        refine VQ_y (fun w' hw' => Y_nilCheck rfl) rfl rfl rfl ?_
        refine VQ_y (fun w' hw' => Y_fieldAddrC (off2 := 0) Tryd.underlying72 rfl Tryd.sizeOf9 (by decide) rfl rfl) rfl rfl rfl ?_
        refine VQ_y (fun w' hw' => Y_load ((World.cell?_of_block (hw'.block _ (World.block_lt_of_cell? _ _ (Hp.cell (j := 0) hH (i := 1) rfl rfl)))).trans (Hp.cell (j := 0) hH (i := 1) rfl rfl)) Tryd.isAgg9 rfl) rfl rfl rfl ?_
        refine VQ_y (fun w' hw' => Y_move rfl) rfl rfl rfl ?_
        refine VQ_y (fun w' hw' => Y_nilCheck rfl) rfl rfl rfl ?_
        refine VQ_y (fun w' hw' => Y_fieldAddrC (off2 := 1) Tryd.underlying72 rfl Tryd.sizeOf3 (by decide) rfl rfl) rfl rfl rfl ?_
        refine VQ_y (fun w' hw' => Y_load ((World.cell?_of_block (hw'.block _ (World.block_lt_of_cell? _ _ (Hp.cell (j := 1) hH (i := 1) rfl rfl)))).trans (Hp.cell (j := 1) hH (i := 1) rfl rfl)) Tryd.isAgg3 rfl) rfl rfl rfl ?_
        obtain ⟨x45, hx45, ho37⟩ := Option.bind_eq_some_iff.1 ho37
        refine VQ_y (fun w' hw' => Y_indexS hx45 Tryd.underlying9 rfl rfl) rfl rfl rfl ?_
        refine VQ_y (fun w' hw' => Y_eql rfl rfl) rfl rfl rfl ?_
        refine VQ_to (fun _ _ => rfl) (fun w46 hk47 => ?_)
        have ht48 := Kp.tr (Dw := False) hk47 hA hB
        replace hH := Hp.kp (Dw := False) hH hk47
        replace hK := Tr.trans (Dw := False) hK ht48
        replace hr8 := Tr.trans (Dw := False) hr8 ht48
        replace hr39 := Tr.trans (Dw := False) hr39 ht48
        replace hB := Nat.le_trans hB ht48.ex.size
        replace hA := ht48.new
        refine C_cond rfl (fun hc49 => ?_) (fun hc49 => ?_)
        · rw [if_pos hc49] at ho37
          refine C_seq ?_
          refine C_region ?_
          refine V_y (Y_move rfl) rfl rfl rfl ?_
          replace hH : Hp B A18 w46 (obC b_r_ [.string s15.2.s, .int .i64 s15.2.at_, .bool s15.2.wrong] 72 :: obBd 36 5 b1 s15.1 :: L) := Hp.front hH (i := 1) rfl
          obtain ⟨x50, hx50, ho37⟩ := Option.bind_eq_some_iff.1 ho37
          refine V_call Tryd.call44 rfl rfl rfl rfl (know_templateReader_escaped_c (Dw := False) w46 hB hA s15.2 b_r_ (⟨#[123, 92]⟩ : ByteArray) hH hx50) ?_
          rintro _ w51 ⟨A52, rfl, hH53, ht54⟩
          replace hK := Tr.trans (Dw := False) hK ht54
          replace hr8 := Tr.trans (Dw := False) hr8 ht54
          replace hr39 := Tr.trans (Dw := False) hr39 ht54
          replace hB := Nat.le_trans hB ht54.ex.size
          replace hA := ht54.new
          replace hH : Hp B A52 w51 (obC b_r_ [.string x50.2.s, .int .i64 x50.2.at_, .bool x50.2.wrong] 72 :: obBd 36 5 b1 s15.1 :: L) := hH53
          replace hH : Hp B A52 w51 (obBd 36 5 b1 s15.1 :: obC b_r_ [.string x50.2.s, .int .i64 x50.2.at_, .bool x50.2.wrong] 72 :: L) := Hp.front hH (i := 1) rfl
          obtain ⟨x55, hx55, ho37⟩ := Option.bind_eq_some_iff.1 ho37
          refine V_call Tryd.call8 rfl rfl rfl rfl (strings_Builder_WriteString_c w51 hB hA s15.1 b1 x50.1 hH hx55) ?_
          rintro _ w56 ⟨A57, rfl, hH58, ht59⟩
          replace hK := Tr.trans (Dw := False) hK ht59
          replace hr8 := Tr.trans (Dw := False) hr8 ht59
          replace hr39 := Tr.trans (Dw := False) hr39 ht59
          replace hB := Nat.le_trans hB ht59.ex.size
          replace hA := ht59.new
          replace hH : Hp B A57 w56 (obBd 36 5 b1 x55.2.2 :: obC b_r_ [.string x50.2.s, .int .i64 x50.2.at_, .bool x50.2.wrong] 72 :: L) := hH58
          refine V_to (fun _ _ => rfl) ?_
          obtain rfl := Option.some.inj ho37
          refine C_exit (fun a ha60 => ?_)
          exact ⟨A57, ha60.sub ⟨rfl, rfl, trivial⟩, ⟨hH, hr39⟩⟩
        · rw [if_neg (nt hc49)] at ho37
          refine C_skip_to (fun _ _ => rfl) ?_
          refine C_seq ?_
          refine C_region_qt (Dw := False) 9 Tryd_mixed (by kernel_rfl) ?_
          simp only [List.take, List.drop]
          refine VQ_y (fun w' hw' => Y_move rfl) rfl rfl rfl ?_
          refine VQ_y (fun w' hw' => Y_nilCheck rfl) rfl rfl rfl ?_
          refine VQ_y (fun w' hw' => Y_fieldAddrC (off2 := 0) Tryd.underlying72 rfl Tryd.sizeOf9 (by decide) rfl rfl) rfl rfl rfl ?_
          refine VQ_y (fun w' hw' => Y_load ((World.cell?_of_block (hw'.block _ (World.block_lt_of_cell? _ _ (Hp.cell (j := 0) hH (i := 1) rfl rfl)))).trans (Hp.cell (j := 0) hH (i := 1) rfl rfl)) Tryd.isAgg9 rfl) rfl rfl rfl ?_
          refine VQ_y (fun w' hw' => Y_move rfl) rfl rfl rfl ?_
          refine VQ_y (fun w' hw' => Y_nilCheck rfl) rfl rfl rfl ?_
          refine VQ_y (fun w' hw' => Y_fieldAddrC (off2 := 1) Tryd.underlying72 rfl Tryd.sizeOf3 (by decide) rfl rfl) rfl rfl rfl ?_
          refine VQ_y (fun w' hw' => Y_load ((World.cell?_of_block (hw'.block _ (World.block_lt_of_cell? _ _ (Hp.cell (j := 1) hH (i := 1) rfl rfl)))).trans (Hp.cell (j := 1) hH (i := 1) rfl rfl)) Tryd.isAgg3 rfl) rfl rfl rfl ?_
          refine VQ_y (fun w' hw' => Y_indexS hx45 Tryd.underlying9 rfl rfl) rfl rfl rfl ?_
          refine VQ_tail (fun w61 hk62 => ?_)
          try simp only [List.take, List.drop]
          have ht63 := Kp.tr (Dw := False) hk62 hA hB
          replace hH := Hp.kp (Dw := False) hH hk62
          replace hK := Tr.trans (Dw := False) hK ht63
          replace hr8 := Tr.trans (Dw := False) hr8 ht63
          replace hr39 := Tr.trans (Dw := False) hr39 ht63
          replace hB := Nat.le_trans hB ht63.ex.size
          replace hA := ht63.new
          obtain ⟨x64, hx64, ho37⟩ := Option.bind_eq_some_iff.1 ho37
          refine V_call Tryd.call45 rfl rfl rfl rfl (strings_Builder_WriteByte_c w61 hB hA s15.1 b1 x45 hH hx64) ?_
          rintro _ w65 ⟨A66, rfl, hH67, ht68⟩
          replace hK := Tr.trans (Dw := False) hK ht68
          replace hr8 := Tr.trans (Dw := False) hr8 ht68
          replace hr39 := Tr.trans (Dw := False) hr39 ht68
          replace hB := Nat.le_trans hB ht68.ex.size
          replace hA := ht68.new
          replace hH : Hp B A66 w65 (obBd 36 5 b1 x64.2 :: obC b_r_ [.string s15.2.s, .int .i64 s15.2.at_, .bool s15.2.wrong] 72 :: L) := hH67
          refine V_to (fun _ _ => rfl) ?_
          refine C_region ?_
          refine V_y (Y_move rfl) rfl rfl rfl ?_
          refine V_y (Y_nilCheck rfl) rfl rfl rfl ?_
          refine V_y (Y_fieldAddrC (off2 := 1) Tryd.underlying72 rfl Tryd.sizeOf3 (by decide) rfl rfl) rfl rfl rfl ?_
          refine V_y (Y_load (Hp.cell (j := 1) hH (i := 1) rfl rfl) Tryd.isAgg3 rfl) rfl rfl rfl ?_
          refine V_y (Y_addI rfl rfl) rfl rfl rfl ?_
          refine V_y (Y_nilCheck rfl) rfl rfl rfl ?_
          refine V_y (Y_fieldAddrC (off2 := 1) Tryd.underlying72 rfl Tryd.sizeOf3 (by decide) rfl rfl) rfl rfl rfl ?_
          refine V_storeC (Dw := False) (off := 1) (ds := [.string s15.2.s, .int .i64 (w64 (s15.2.at_ + 1)), .bool s15.2.wrong]) hH (i := 1) rfl Tryd.sizeOf3 rfl (Nat.le_of_ble_eq_true rfl) (by simp [Value.cells, Value.oneCell']) rfl hB hA rfl rfl ?_
          intro w69 hH70 ht71
          replace hK := Tr.trans (Dw := False) hK ht71
          replace hr8 := Tr.trans (Dw := False) hr8 ht71
          replace hr39 := Tr.trans (Dw := False) hr39 ht71
          replace hB := Nat.le_trans hB ht71.ex.size
          replace hA := ht71.new
          replace hH : Hp B A66 w69 (obBd 36 5 b1 x64.2 :: obC b_r_ [.string s15.2.s, .int .i64 (w64 (s15.2.at_ + 1)), .bool s15.2.wrong] 72 :: L) := hH70
          obtain rfl := Option.some.inj ho37
          refine V_end (fun a ha72 => ?_)
          exact ⟨A66, ha72.sub ⟨rfl, rfl, trivial⟩, ⟨hH, hr39⟩⟩
      rintro A43 w40 ⟨hH44, hk41⟩ a ha42
      replace hK := Tr.trans (Dw := False) hK hk41
      replace hr8 := Tr.trans (Dw := False) hr8 hk41
      replace hB := Nat.le_trans hB hk41.ex.size
      replace hA := hk41.new
      replace hH : Hp B A43 w40 (obBd 36 5 b1 s38.1 :: obC b_r_ [.string s38.2.s, .int .i64 s38.2.at_, .bool s38.2.wrong] 72 :: L) := hH44
      obtain rfl := Option.some.inj h21
      exact ⟨(s38.1, s38.2), h22, ⟨A43, ha42.sub ⟨rfl, rfl, trivial⟩, ⟨hH, hr8⟩⟩⟩
    · rw [if_neg (nt hc36)] at h21
      obtain rfl := Option.some.inj h21
      refine C_exit (fun a ha74 => ?_)
      exact ⟨((s15.1, s15.2), A18), ha74.sub ⟨rfl, trivial⟩, ⟨h22.symm, hH, hr8⟩⟩
  rintro ⟨s7, A13⟩ w10 ⟨rfl, hH14, hk11⟩ a ha12
  rw [Lp.andThen_fin] at hm
  replace hK := Tr.trans (Dw := False) hK hk11
  replace hB := Nat.le_trans hB hk11.ex.size
  replace hA := hk11.new
  replace hH : Hp B A13 w10 (obBd 36 5 b1 s7.1 :: obC b_r_ [.string s7.2.s, .int .i64 s7.2.at_, .bool s7.2.wrong] 72 :: L) := hH14
  refine C_at (n := ⟨64, [], none⟩) (fun _ _ => rfl) ?_ ha12
  refine C_seq ?_
  refine C_region ?_
  obtain ⟨x76, hx76, hm⟩ := Option.bind_eq_some_iff.1 hm
  refine V_call Tryd.call10 rfl rfl rfl rfl (strings_Builder_String_c w10 hB hA s7.1 b1 hH hx76) ?_
  rintro _ w77 ⟨A78, rfl, hH79, ht80⟩
  replace hK := Tr.trans (Dw := False) hK ht80
  replace hB := Nat.le_trans hB ht80.ex.size
  replace hA := ht80.new
  replace hH : Hp B A78 w77 (obBd 36 5 b1 s7.1 :: obC b_r_ [.string s7.2.s, .int .i64 s7.2.at_, .bool s7.2.wrong] 72 :: L) := hH79
  refine V_y (Y_assign rfl) rfl rfl rfl ?_
  refine V_to (fun _ _ => rfl) ?_
  obtain rfl := Option.some.inj hm
  replace hH : Hp B A78 w77 (obC b_r_ [.string s7.2.s, .int .i64 s7.2.at_, .bool s7.2.wrong] 72 :: obBd 36 5 b1 s7.1 :: L) := Hp.front hH (i := 1) rfl
  replace hH : Hp B A78 w77 (obC b_r_ [.string s7.2.s, .int .i64 s7.2.at_, .bool s7.2.wrong] 72 :: L) := Hp.drop hH (i := 1) rfl
  refine C_ret ?_
  try simp only [↓inBlock_ret, ↓then_ret]
  exact retQ rfl (Res.one Tryd.results27 rfl) ⟨A78, rfl, hH, hK⟩

set_option maxRecDepth 4000 in
set_option maxHeartbeats 4000000 in
theorem know_templateReader_must_c (w : World) {A : Nat → Prop} {B : Nat} (hB : B ≤ w.heap.size) (hA : ∀ b, w.heap.size ≤ b → A b) (r_ : know_templateReader) (b_r_ : Nat) (c : Int) {L : List Ob} (hH : Hp B A w (obC b_r_ [.string r_.s, .int .i64 r_.at_, .bool r_.wrong] 72 :: L)) {r : know_templateReader} (hm : know_templateReader_must r_ c = some r) : Ret Tryd.prog 46 #[.pointer (some ⟨b_r_, 0, none⟩), .int .u8 c] w fun v w' => ∃ A1 : Nat → Prop, v = .tuple #[] ∧ Hp B A1 w' (obC b_r_ [.string r.s, .int .i64 r.at_, .bool r.wrong] 72 :: L) ∧ Tr Dw B A w A1 w' := by
  unfold know_templateReader_must at hm
  refine enter Tryd.func46 rfl Tryd.ntmps46 rfl ?_
  have hK : Tr Dw B A w A w := Tr.refl (Dw := Dw) hA
  refine C_seq ?_
  refine C_seq ?_
  refine C_region ?_
  refine V_y (Y_move rfl) rfl rfl rfl ?_
  refine V_y (Y_nilCheck rfl) rfl rfl rfl ?_
  refine V_y (Y_fieldAddrC (off2 := 2) Tryd.underlying72 rfl Tryd.sizeOf4 (by decide) rfl rfl) rfl rfl rfl ?_
  refine V_y (Y_load (Hp.cell (j := 2) hH (i := 0) rfl rfl) Tryd.isAgg4 rfl) rfl rfl rfl ?_
  refine V_to (fun _ _ => rfl) ?_
  refine C_cond rfl (fun hc1 => ?_) (fun hc1 => ?_)
  · rw [if_pos hc1] at hm
    obtain rfl := Option.some.inj hm
    refine C_ret ?_
    try simp only [↓inBlock_ret, ↓then_ret]
    exact retQ rfl (Res.zero Tryd.results46) ⟨A, rfl, hH, hK⟩
  · rw [if_neg (nt hc1)] at hm
    refine C_skip_to (fun _ _ => rfl) ?_
    refine C_seq ?_
    refine C_region_q (Dw := Dw) Tryd_mixed (by kernel_rfl) ?_
    refine VQ_y (fun w' hw' => Y_move rfl) rfl rfl rfl ?_
    refine VQ_y (fun w' hw' => Y_nilCheck rfl) rfl rfl rfl ?_
    refine VQ_y (fun w' hw' => Y_fieldAddrC (off2 := 1) Tryd.underlying72 rfl Tryd.sizeOf3 (by decide) rfl rfl) rfl rfl rfl ?_
    refine VQ_y (fun w' hw' => Y_load ((World.cell?_of_block (hw'.block _ (World.block_lt_of_cell? _ _ (Hp.cell (j := 1) hH (i := 0) rfl rfl)))).trans (Hp.cell (j := 1) hH (i := 0) rfl rfl)) Tryd.isAgg3 rfl) rfl rfl rfl ?_
    refine VQ_y (fun w' hw' => Y_move rfl) rfl rfl rfl ?_
    refine VQ_y (fun w' hw' => Y_nilCheck rfl) rfl rfl rfl ?_
    refine VQ_y (fun w' hw' => Y_fieldAddrC (off2 := 0) Tryd.underlying72 rfl Tryd.sizeOf9 (by decide) rfl rfl) rfl rfl rfl ?_
    refine VQ_y (fun w' hw' => Y_load ((World.cell?_of_block (hw'.block _ (World.block_lt_of_cell? _ _ (Hp.cell (j := 0) hH (i := 0) rfl rfl)))).trans (Hp.cell (j := 0) hH (i := 0) rfl rfl)) Tryd.isAgg9 rfl) rfl rfl rfl ?_
    refine VQ_y (fun w' hw' => Y_lenStr rfl Tryd.underlying9 rfl) rfl rfl rfl ?_
    refine VQ_y (fun w' hw' => Y_lss rfl rfl) rfl rfl rfl ?_
    refine VQ_y (fun w' hw' => Y_move rfl) rfl rfl rfl ?_
    obtain ⟨s3, hs3, hm⟩ := Option.bind_eq_some_iff.1 hm
    refine VQ_cut 12 (fun _ : Unit => [(0, .pointer (some ⟨b_r_, 0, none⟩)), (30, .bool s3)]) (fun _ => True) ?_ ?_
    · simp only [List.take, List.drop]
      rcases Bool.eq_false_or_eq_true (decide (r_.at_ < (r_.s.size : Int))) with hc2 | hc2
      · rw [if_pos hc2] at hs3
        refine VQ_ge rfl rfl rfl hc2 ?_
        refine VQ_y (fun w' hw' => Y_move rfl) rfl rfl rfl ?_
        refine VQ_ge rfl rfl rfl hc2 ?_
        refine VQ_y (fun w' hw' => Y_nilCheck rfl) rfl rfl rfl ?_
        refine VQ_ge rfl rfl rfl hc2 ?_
        refine VQ_y (fun w' hw' => Y_fieldAddrC (off2 := 0) Tryd.underlying72 rfl Tryd.sizeOf9 (by decide) rfl rfl) rfl rfl rfl ?_
        refine VQ_ge rfl rfl rfl hc2 ?_
        refine VQ_y (fun w' hw' => Y_load ((World.cell?_of_block (hw'.block _ (World.block_lt_of_cell? _ _ (Hp.cell (j := 0) hH (i := 0) rfl rfl)))).trans (Hp.cell (j := 0) hH (i := 0) rfl rfl)) Tryd.isAgg9 rfl) rfl rfl rfl ?_
        refine VQ_ge rfl rfl rfl hc2 ?_
        refine VQ_y (fun w' hw' => Y_move rfl) rfl rfl rfl ?_
        refine VQ_ge rfl rfl rfl hc2 ?_
        refine VQ_y (fun w' hw' => Y_nilCheck rfl) rfl rfl rfl ?_
        refine VQ_ge rfl rfl rfl hc2 ?_
        refine VQ_y (fun w' hw' => Y_fieldAddrC (off2 := 1) Tryd.underlying72 rfl Tryd.sizeOf3 (by decide) rfl rfl) rfl rfl rfl ?_
        refine VQ_ge rfl rfl rfl hc2 ?_
        refine VQ_y (fun w' hw' => Y_load ((World.cell?_of_block (hw'.block _ (World.block_lt_of_cell? _ _ (Hp.cell (j := 1) hH (i := 0) rfl rfl)))).trans (Hp.cell (j := 1) hH (i := 0) rfl rfl)) Tryd.isAgg3 rfl) rfl rfl rfl ?_
        refine VQ_ge rfl rfl rfl hc2 ?_
        obtain ⟨x4, hx4, hs3⟩ := Option.bind_eq_some_iff.1 hs3
        refine VQ_y (fun w' hw' => Y_indexS hx4 Tryd.underlying9 rfl rfl) rfl rfl rfl ?_
        refine VQ_ge rfl rfl rfl hc2 ?_
        refine VQ_y (fun w' hw' => Y_move rfl) rfl rfl rfl ?_
        refine VQ_ge rfl rfl rfl hc2 ?_
        refine VQ_y (fun w' hw' => Y_eql rfl rfl) rfl rfl rfl ?_
        refine VQ_y (fun _ _ => Y_pick_te rfl hc2 rfl) rfl rfl rfl ?_
        obtain rfl := Option.some.inj hs3
        exact VQ_end fun a ha => ⟨(), ha.sub ⟨rfl, rfl, trivial⟩, trivial⟩
      · rw [if_neg (nt hc2)] at hs3
        refine VQ_gn rfl rfl rfl hc2 rfl rfl rfl ?_
        refine VQ_gn rfl rfl rfl hc2 rfl rfl rfl ?_
        refine VQ_gn rfl rfl rfl hc2 rfl rfl rfl ?_
        refine VQ_gn rfl rfl rfl hc2 rfl rfl rfl ?_
        refine VQ_gn rfl rfl rfl hc2 rfl rfl rfl ?_
        refine VQ_gn rfl rfl rfl hc2 rfl rfl rfl ?_
        refine VQ_gn rfl rfl rfl hc2 rfl rfl rfl ?_
        refine VQ_gn rfl rfl rfl hc2 rfl rfl rfl ?_
        refine VQ_gn rfl rfl rfl hc2 rfl rfl rfl ?_
        refine VQ_gn rfl rfl rfl hc2 rfl rfl rfl ?_
        refine VQ_gn rfl rfl rfl hc2 rfl rfl rfl ?_
        refine VQ_y (fun _ _ => Y_pick_fe rfl hc2 rfl) rfl rfl rfl ?_
        obtain rfl := Option.some.inj hs3
        exact VQ_end fun a ha => ⟨(), ha.sub ⟨rfl, rfl, trivial⟩, trivial⟩
    simp only [List.take, List.drop]
    rintro _ _
    refine VQ_to (fun _ _ => rfl) (fun w5 hk6 => ?_)
    have ht7 := Kp.tr (Dw := Dw) hk6 hA hB
    replace hH := Hp.kp (Dw := Dw) hH hk6
    replace hK := Tr.trans (Dw := Dw) hK ht7
    replace hB := Nat.le_trans hB ht7.ex.size
    replace hA := ht7.new
    obtain ⟨s9, ho8, hm⟩ := Option.bind_eq_some_iff.1 hm
    refine C_cutG (ι := (Nat → Prop)) (fun (A14 : (Nat → Prop)) => []) (fun (A14 : (Nat → Prop)) => fun w' => Hp B A14 w' (obC b_r_ [.string s9.s, .int .i64 s9.at_, .bool s9.wrong] 72 :: L) ∧ Tr Dw B A w5 A14 w') ?_ ?_
    · have hr10 : Tr Dw B A w5 A w5 := Tr.refl (Dw := Dw) hA
      refine C_cond rfl (fun hc16 => ?_) (fun hc16 => ?_)
      · rw [if_pos hc16] at ho8
        refine C_region ?_
        refine V_y (Y_move rfl) rfl rfl rfl ?_
        refine V_y (Y_nilCheck rfl) rfl rfl rfl ?_
        refine V_y (Y_fieldAddrC (off2 := 1) Tryd.underlying72 rfl Tryd.sizeOf3 (by decide) rfl rfl) rfl rfl rfl ?_
        refine V_y (Y_load (Hp.cell (j := 1) hH (i := 0) rfl rfl) Tryd.isAgg3 rfl) rfl rfl rfl ?_
        refine V_y (Y_addI rfl rfl) rfl rfl rfl ?_
        refine V_y (Y_nilCheck rfl) rfl rfl rfl ?_
        refine V_y (Y_fieldAddrC (off2 := 1) Tryd.underlying72 rfl Tryd.sizeOf3 (by decide) rfl rfl) rfl rfl rfl ?_
        refine V_storeC (Dw := Dw) (off := 1) (ds := [.string r_.s, .int .i64 (w64 (r_.at_ + 1)), .bool r_.wrong]) hH (i := 0) rfl Tryd.sizeOf3 rfl (Nat.le_of_ble_eq_true rfl) (by simp [Value.cells, Value.oneCell']) rfl hB hA rfl rfl ?_
        intro w17 hH18 ht19
        replace hK := Tr.trans (Dw := Dw) hK ht19
        replace hr10 := Tr.trans (Dw := Dw) hr10 ht19
        replace hB := Nat.le_trans hB ht19.ex.size
        replace hA := ht19.new
        replace hH : Hp B A w17 (obC b_r_ [.string r_.s, .int .i64 (w64 (r_.at_ + 1)), .bool r_.wrong] 72 :: L) := hH18
        obtain rfl := Option.some.inj ho8
        refine V_end (fun a ha20 => ?_)
        exact ⟨A, ha20.sub trivial, ⟨hH, hr10⟩⟩
      · rw [if_neg (nt hc16)] at ho8
        refine C_region ?_
        refine V_y (Y_move rfl) rfl rfl rfl ?_
        refine V_y (Y_nilCheck rfl) rfl rfl rfl ?_
        refine V_y (Y_fieldAddrC (off2 := 2) Tryd.underlying72 rfl Tryd.sizeOf4 (by decide) rfl rfl) rfl rfl rfl ?_
        refine V_storeC (Dw := Dw) (off := 2) (ds := [.string r_.s, .int .i64 r_.at_, .bool true]) hH (i := 0) rfl Tryd.sizeOf4 rfl (Nat.le_of_ble_eq_true rfl) (by simp [Value.cells, Value.oneCell']) rfl hB hA rfl rfl ?_
        intro w21 hH22 ht23
        replace hK := Tr.trans (Dw := Dw) hK ht23
        replace hr10 := Tr.trans (Dw := Dw) hr10 ht23
        replace hB := Nat.le_trans hB ht23.ex.size
        replace hA := ht23.new
        replace hH : Hp B A w21 (obC b_r_ [.string r_.s, .int .i64 r_.at_, .bool true] 72 :: L) := hH22
        obtain rfl := Option.some.inj ho8
        refine V_end (fun a ha24 => ?_)
        exact ⟨A, ha24.sub trivial, ⟨hH, hr10⟩⟩
    rintro A14 w11 ⟨hH15, hk12⟩ a ha13
    replace hK := Tr.trans (Dw := Dw) hK hk12
    replace hB := Nat.le_trans hB hk12.ex.size
    replace hA := hk12.new
    replace hH : Hp B A14 w11 (obC b_r_ [.string s9.s, .int .i64 s9.at_, .bool s9.wrong] 72 :: L) := hH15
    obtain rfl := Option.some.inj hm
    try simp only [↓inBlock_ret, ↓then_ret]
    exact normQ (retQ rfl (Res.zero Tryd.results46) ⟨A14, rfl, hH, hK⟩ a ha13)

set_option maxRecDepth 4000 in
set_option maxHeartbeats 4000000 in
theorem know_digit_c (w : World) (c : Int) : Ret Tryd.prog 30 #[.int .u8 c] w fun v w' => v = .bool (know_digit c) ∧ w = w' := by
  generalize hm : know_digit c = r
  unfold know_digit at hm
  refine enter Tryd.func30 rfl Tryd.ntmps30 rfl ?_
  refine C_seq ?_
  refine C_region ?_
  refine V_y (Y_assign rfl) rfl rfl rfl ?_
  refine V_to (fun _ _ => rfl) ?_
  refine C_seq ?_
  refine C_region ?_
  refine V_y (Y_move rfl) rfl rfl rfl ?_
  refine V_y (Y_geq rfl rfl) rfl rfl rfl ?_
  refine V_y (Y_move rfl) rfl rfl rfl ?_
  refine V_cut 3 (fun _ : Unit => [(8, .bool ((decide ((48 : Int) ≤ c)) && (decide (c ≤ 57))))]) (fun _ w' => w = w') ?_ ?_
  · simp only [List.take, List.drop]
    rcases Bool.eq_false_or_eq_true (decide ((48 : Int) ≤ c)) with hc1 | hc1
    · refine V_ge rfl rfl rfl hc1 ?_
      refine V_y (Y_move rfl) rfl rfl rfl ?_
      refine V_ge rfl rfl rfl hc1 ?_
      refine V_y (Y_leq rfl rfl) rfl rfl rfl ?_
      refine V_y (Y_pick_te rfl hc1 rfl) rfl rfl rfl ?_
      exact V_end fun a ha => ⟨(), ha.sub ⟨(by rw [hc1]; rfl), trivial⟩, rfl⟩
    · refine V_gn rfl rfl rfl hc1 rfl rfl rfl ?_
      refine V_gn rfl rfl rfl hc1 rfl rfl rfl ?_
      refine V_y (Y_pick_fe rfl hc1 rfl) rfl rfl rfl ?_
      exact V_end fun a ha => ⟨(), ha.sub ⟨(by rw [hc1]; rfl), trivial⟩, rfl⟩
  simp only [List.take, List.drop]
  rintro _ _ rfl
  refine V_y (Y_assign rfl) rfl rfl rfl ?_
  refine V_to (fun _ _ => rfl) ?_
  obtain rfl := hm
  refine C_ret ?_
  try simp only [↓inBlock_ret, ↓then_ret]
  exact retQ rfl (Res.one Tryd.results30 rfl) ⟨rfl, rfl⟩

set_option maxRecDepth 4000 in
set_option maxHeartbeats 4000000 in
theorem know_nameByte_c (w : World) (c : Int) : Ret Tryd.prog 20 #[.int .u8 c] w fun v w' => v = .bool (know_nameByte c) ∧ w = w' := by
  generalize hm : know_nameByte c = r
  unfold know_nameByte at hm
  refine enter Tryd.func20 rfl Tryd.ntmps20 rfl ?_
  refine C_seq ?_
  refine C_region ?_
  refine V_y (Y_assign rfl) rfl rfl rfl ?_
  refine V_to (fun _ _ => rfl) ?_
  refine C_seq ?_
  refine C_region ?_
  refine V_y (Y_move rfl) rfl rfl rfl ?_
  refine V_y (Y_geq rfl rfl) rfl rfl rfl ?_
  refine V_y (Y_move rfl) rfl rfl rfl ?_
  refine V_cut 3 (fun _ : Unit => [(0, .int .u8 c), (8, .bool ((decide ((97 : Int) ≤ c)) && (decide (c ≤ 122))))]) (fun _ w' => w = w') ?_ ?_
  · simp only [List.take, List.drop]
    rcases Bool.eq_false_or_eq_true (decide ((97 : Int) ≤ c)) with hc1 | hc1
    · refine V_ge rfl rfl rfl hc1 ?_
      refine V_y (Y_move rfl) rfl rfl rfl ?_
      refine V_ge rfl rfl rfl hc1 ?_
      refine V_y (Y_leq rfl rfl) rfl rfl rfl ?_
      refine V_y (Y_pick_te rfl hc1 rfl) rfl rfl rfl ?_
      exact V_end fun a ha => ⟨(), ha.sub ⟨rfl, (by rw [hc1]; rfl), trivial⟩, rfl⟩
    · refine V_gn rfl rfl rfl hc1 rfl rfl rfl ?_
      refine V_gn rfl rfl rfl hc1 rfl rfl rfl ?_
      refine V_y (Y_pick_fe rfl hc1 rfl) rfl rfl rfl ?_
      exact V_end fun a ha => ⟨(), ha.sub ⟨rfl, (by rw [hc1]; rfl), trivial⟩, rfl⟩
  simp only [List.take, List.drop]
  rintro _ _ rfl
  refine V_y (Y_move rfl) rfl rfl rfl ?_
  refine V_cut 3 (fun _ : Unit => [(0, .int .u8 c), (12, .bool (((decide ((97 : Int) ≤ c)) && (decide (c ≤ 122))) || (know_digit c)))]) (fun _ w' => w = w') ?_ ?_
  · simp only [List.take, List.drop]
    rcases Bool.eq_false_or_eq_true (((decide ((97 : Int) ≤ c)) && (decide (c ≤ 122)))) with hc3 | hc3
    · refine V_gn rfl rfl rfl hc3 rfl rfl rfl ?_
      refine V_gn rfl rfl rfl hc3 rfl rfl rfl ?_
      refine V_y (Y_pick_te rfl hc3 rfl) rfl rfl rfl ?_
      exact V_end fun a ha => ⟨(), ha.sub ⟨rfl, (by rw [hc3]; rfl), trivial⟩, rfl⟩
    · refine V_ge rfl rfl rfl hc3 ?_
      refine V_y (Y_move rfl) rfl rfl rfl ?_
      refine V_ge rfl rfl rfl hc3 ?_
      refine V_call Tryd.call30 rfl rfl rfl rfl (know_digit_c w c) ?_
      rintro _ _ ⟨rfl, rfl⟩
      refine V_y (Y_pick_fe rfl hc3 rfl) rfl rfl rfl ?_
      exact V_end fun a ha => ⟨(), ha.sub ⟨rfl, (by rw [hc3]; rfl), trivial⟩, rfl⟩
  simp only [List.take, List.drop]
  rintro _ _ rfl
  refine V_y (Y_move rfl) rfl rfl rfl ?_
  refine V_cut 3 (fun _ : Unit => [(16, .bool ((((decide ((97 : Int) ≤ c)) && (decide (c ≤ 122))) || (know_digit c)) || (c == 95)))]) (fun _ w' => w = w') ?_ ?_
  · simp only [List.take, List.drop]
    rcases Bool.eq_false_or_eq_true ((((decide ((97 : Int) ≤ c)) && (decide (c ≤ 122))) || (know_digit c))) with hc5 | hc5
    · refine V_gn rfl rfl rfl hc5 rfl rfl rfl ?_
      refine V_gn rfl rfl rfl hc5 rfl rfl rfl ?_
      refine V_y (Y_pick_te rfl hc5 rfl) rfl rfl rfl ?_
      exact V_end fun a ha => ⟨(), ha.sub ⟨(by rw [hc5]; rfl), trivial⟩, rfl⟩
    · refine V_ge rfl rfl rfl hc5 ?_
      refine V_y (Y_move rfl) rfl rfl rfl ?_
      refine V_ge rfl rfl rfl hc5 ?_
      refine V_y (Y_eql rfl rfl) rfl rfl rfl ?_
      refine V_y (Y_pick_fe rfl hc5 rfl) rfl rfl rfl ?_
      exact V_end fun a ha => ⟨(), ha.sub ⟨(by rw [hc5]; rfl), trivial⟩, rfl⟩
  simp only [List.take, List.drop]
  rintro _ _ rfl
  refine V_y (Y_assign rfl) rfl rfl rfl ?_
  refine V_to (fun _ _ => rfl) ?_
  obtain rfl := hm
  refine C_ret ?_
  try simp only [↓inBlock_ret, ↓then_ret]
  exact retQ rfl (Res.one Tryd.results20 rfl) ⟨rfl, rfl⟩

set_option maxRecDepth 4000 in
set_option maxHeartbeats 4000000 in
theorem know_templateReader_choice_c (w : World) {A : Nat → Prop} {B : Nat} (hB : B ≤ w.heap.size) (hA : ∀ b, w.heap.size ≤ b → A b) (r_ : know_templateReader) (b_r_ : Nat) (ends : ByteArray) {L : List Ob} (hH : Hp B A w (obC b_r_ [.string r_.s, .int .i64 r_.at_, .bool r_.wrong] 72 :: L)) {r : (ByteArray × know_templateReader)} (hm : know_templateReader_choice r_ ends = some r) : Ret Tryd.prog 47 #[.pointer (some ⟨b_r_, 0, none⟩), .string ends] w fun v w' => ∃ A1 : Nat → Prop, v = .string r.1 ∧ Hp B A1 w' (obC b_r_ [.string r.2.s, .int .i64 r.2.at_, .bool r.2.wrong] 72 :: L) ∧ Tr False B A w A1 w' := by
  unfold know_templateReader_choice at hm
  refine enter Tryd.func47 rfl Tryd.ntmps47 rfl ?_
  have hK : Tr False B A w A w := Tr.refl (Dw := False) hA
  refine C_seq ?_
  refine C_region ?_
  refine V_y (Y_assign rfl) rfl rfl rfl ?_
  refine V_to (fun _ _ => rfl) ?_
  refine C_seq ?_
  refine C_region ?_
  refine V_allocH (Dw := False) (B := B) hH Tryd.zeroValue36 hB hA rfl ?_
  intro b1 w2 A3 hH4 ht5
  replace hH4 := Hp.bdOf (e := 5) hH4
  replace hK := Tr.trans (Dw := False) hK ht5
  replace hB := Nat.le_trans hB ht5.ex.size
  replace hA := ht5.new
  replace hH : Hp B A3 w2 (obBd 36 5 b1 ByteArray.empty :: obC b_r_ [.string r_.s, .int .i64 r_.at_, .bool r_.wrong] 72 :: L) := hH4
  refine V_to (fun _ _ => rfl) ?_
  refine C_seq ?_
  obtain ⟨o6, ho6, hm⟩ := Option.bind_eq_some_iff.1 hm
  refine C_cutG (ι := ((ByteArray × know_templateReader) × (Nat → Prop))) (fun ⟨s7, A13⟩ => [(5, .pointer (some ⟨b1, 0, none⟩))]) (fun ⟨s7, A13⟩ => fun w' => o6 = .fin s7 ∧ Hp B A13 w' (obBd 36 5 b1 s7.1 :: obC b_r_ [.string s7.2.s, .int .i64 s7.2.at_, .bool s7.2.wrong] 72 :: L) ∧ Tr False B A3 w2 A13 w') ?_ ?_
  · refine C_block ?_
    refine C_while ho6 (fun s15 a w' => ∃ i : (Nat → Prop), Has ⟨70, [], none⟩ a ([(0, .pointer (some ⟨b_r_, 0, none⟩)), (1, .string ends), (5, .pointer (some ⟨b1, 0, none⟩))]) ∧ Hp B i w' (obBd 36 5 b1 s15.1 :: obC b_r_ [.string s15.2.s, .int .i64 s15.2.at_, .bool s15.2.wrong] 72 :: L) ∧ Tr False B A3 w2 i w') (fun a ha => ⟨A3, ha.sub ⟨rfl, rfl, rfl, trivial⟩, ⟨hH, Tr.refl (Dw := False) hA⟩⟩) ?_
    rintro K s15 a w17 ⟨A18, ha122, hH19, hr8⟩ K26
    refine C_of ?_ ha122
    replace hK := Tr.trans (Dw := False) hK hr8
    replace hB := Nat.le_trans hB hr8.ex.size
    replace hA := hr8.new
    replace hH : Hp B A18 w17 (obBd 36 5 b1 s15.1 :: obC b_r_ [.string s15.2.s, .int .i64 s15.2.at_, .bool s15.2.wrong] 72 :: L) := hH19
    obtain ⟨x20, h21, h22⟩ := K26
    refine C_seq ?_
    refine C_seq ?_
    refine C_region_q (Dw := False) Tryd_mixed (by kernel_rfl) ?_
    refine VQ_y (fun w' hw' => Y_move rfl) rfl rfl rfl ?_
    refine VQ_y (fun w' hw' => Y_nilCheck rfl) rfl rfl rfl ?_
    refine VQ_y (fun w' hw' => Y_fieldAddrC (off2 := 2) Tryd.underlying72 rfl Tryd.sizeOf4 (by decide) rfl rfl) rfl rfl rfl ?_
    refine VQ_y (fun w' hw' => Y_load ((World.cell?_of_block (hw'.block _ (World.block_lt_of_cell? _ _ (Hp.cell (j := 2) hH (i := 1) rfl rfl)))).trans (Hp.cell (j := 2) hH (i := 1) rfl rfl)) Tryd.isAgg4 rfl) rfl rfl rfl ?_
    refine VQ_y (fun w' hw' => Y_not rfl) rfl rfl rfl ?_
    refine VQ_y (fun w' hw' => Y_move rfl) rfl rfl rfl ?_
    refine VQ_cut 11 (fun _ : Unit => [(0, .pointer (some ⟨b_r_, 0, none⟩)), (1, .string ends), (5, .pointer (some ⟨b1, 0, none⟩)), (23, .bool ((!s15.2.wrong) && (decide (s15.2.at_ < (s15.2.s.size : Int)))))]) (fun _ => True) ?_ ?_
    · simp only [List.take, List.drop]
      rcases Bool.eq_false_or_eq_true (!s15.2.wrong) with hc27 | hc27
      · refine VQ_ge rfl rfl rfl hc27 ?_
        refine VQ_y (fun w' hw' => Y_move rfl) rfl rfl rfl ?_
        refine VQ_ge rfl rfl rfl hc27 ?_
        refine VQ_y (fun w' hw' => Y_nilCheck rfl) rfl rfl rfl ?_
        refine VQ_ge rfl rfl rfl hc27 ?_
        refine VQ_y (fun w' hw' => Y_fieldAddrC (off2 := 1) Tryd.underlying72 rfl Tryd.sizeOf3 (by decide) rfl rfl) rfl rfl rfl ?_
        refine VQ_ge rfl rfl rfl hc27 ?_
        refine VQ_y (fun w' hw' => Y_load ((World.cell?_of_block (hw'.block _ (World.block_lt_of_cell? _ _ (Hp.cell (j := 1) hH (i := 1) rfl rfl)))).trans (Hp.cell (j := 1) hH (i := 1) rfl rfl)) Tryd.isAgg3 rfl) rfl rfl rfl ?_
        refine VQ_ge rfl rfl rfl hc27 ?_
        refine VQ_y (fun w' hw' => Y_move rfl) rfl rfl rfl ?_
        refine VQ_ge rfl rfl rfl hc27 ?_
        refine VQ_y (fun w' hw' => Y_nilCheck rfl) rfl rfl rfl ?_
        refine VQ_ge rfl rfl rfl hc27 ?_
        refine VQ_y (fun w' hw' => Y_fieldAddrC (off2 := 0) Tryd.underlying72 rfl Tryd.sizeOf9 (by decide) rfl rfl) rfl rfl rfl ?_
        refine VQ_ge rfl rfl rfl hc27 ?_
        refine VQ_y (fun w' hw' => Y_load ((World.cell?_of_block (hw'.block _ (World.block_lt_of_cell? _ _ (Hp.cell (j := 0) hH (i := 1) rfl rfl)))).trans (Hp.cell (j := 0) hH (i := 1) rfl rfl)) Tryd.isAgg9 rfl) rfl rfl rfl ?_
        refine VQ_ge rfl rfl rfl hc27 ?_
        refine VQ_y (fun w' hw' => Y_lenStr rfl Tryd.underlying9 rfl) rfl rfl rfl ?_
        refine VQ_ge rfl rfl rfl hc27 ?_
        refine VQ_y (fun w' hw' => Y_lss rfl rfl) rfl rfl rfl ?_
        refine VQ_y (fun _ _ => Y_pick_te rfl hc27 rfl) rfl rfl rfl ?_
        exact VQ_end fun a ha => ⟨(), ha.sub ⟨rfl, rfl, rfl, (by rw [hc27]; rfl), trivial⟩, trivial⟩
      · refine VQ_gn rfl rfl rfl hc27 rfl rfl rfl ?_
        refine VQ_gn rfl rfl rfl hc27 rfl rfl rfl ?_
        refine VQ_gn rfl rfl rfl hc27 rfl rfl rfl ?_
        refine VQ_gn rfl rfl rfl hc27 rfl rfl rfl ?_
        refine VQ_gn rfl rfl rfl hc27 rfl rfl rfl ?_
        refine VQ_gn rfl rfl rfl hc27 rfl rfl rfl ?_
        refine VQ_gn rfl rfl rfl hc27 rfl rfl rfl ?_
        refine VQ_gn rfl rfl rfl hc27 rfl rfl rfl ?_
        refine VQ_gn rfl rfl rfl hc27 rfl rfl rfl ?_
        refine VQ_gn rfl rfl rfl hc27 rfl rfl rfl ?_
        refine VQ_y (fun _ _ => Y_pick_fe rfl hc27 rfl) rfl rfl rfl ?_
        exact VQ_end fun a ha => ⟨(), ha.sub ⟨rfl, rfl, rfl, (by rw [hc27]; rfl), trivial⟩, trivial⟩
    simp only [List.take, List.drop]
    rintro _ _
    refine VQ_y (fun w' hw' => Y_move rfl) rfl rfl rfl ?_
    obtain ⟨s30, hs30, h21⟩ := Option.bind_eq_some_iff.1 h21
    refine VQ_cut 13 (fun _ : Unit => [(0, .pointer (some ⟨b_r_, 0, none⟩)), (1, .string ends), (5, .pointer (some ⟨b1, 0, none⟩)), (37, .bool s30)]) (fun _ => True) ?_ ?_
    · simp only [List.take, List.drop]
      rcases Bool.eq_false_or_eq_true (((!s15.2.wrong) && (decide (s15.2.at_ < (s15.2.s.size : Int))))) with hc29 | hc29
      · rw [if_pos hc29] at hs30
        refine VQ_ge rfl rfl rfl hc29 ?_
        refine VQ_y (fun w' hw' => Y_move rfl) rfl rfl rfl ?_
        refine VQ_ge rfl rfl rfl hc29 ?_
        refine VQ_y (fun w' hw' => Y_move rfl) rfl rfl rfl ?_
        refine VQ_ge rfl rfl rfl hc29 ?_
        refine VQ_y (fun w' hw' => Y_nilCheck rfl) rfl rfl rfl ?_
        refine VQ_ge rfl rfl rfl hc29 ?_
        refine VQ_y (fun w' hw' => Y_fieldAddrC (off2 := 0) Tryd.underlying72 rfl Tryd.sizeOf9 (by decide) rfl rfl) rfl rfl rfl ?_
        refine VQ_ge rfl rfl rfl hc29 ?_
        refine VQ_y (fun w' hw' => Y_load ((World.cell?_of_block (hw'.block _ (World.block_lt_of_cell? _ _ (Hp.cell (j := 0) hH (i := 1) rfl rfl)))).trans (Hp.cell (j := 0) hH (i := 1) rfl rfl)) Tryd.isAgg9 rfl) rfl rfl rfl ?_
        refine VQ_ge rfl rfl rfl hc29 ?_
        refine VQ_y (fun w' hw' => Y_move rfl) rfl rfl rfl ?_
        refine VQ_ge rfl rfl rfl hc29 ?_
        refine VQ_y (fun w' hw' => Y_nilCheck rfl) rfl rfl rfl ?_
        refine VQ_ge rfl rfl rfl hc29 ?_
        refine VQ_y (fun w' hw' => Y_fieldAddrC (off2 := 1) Tryd.underlying72 rfl Tryd.sizeOf3 (by decide) rfl rfl) rfl rfl rfl ?_
        refine VQ_ge rfl rfl rfl hc29 ?_
        refine VQ_y (fun w' hw' => Y_load ((World.cell?_of_block (hw'.block _ (World.block_lt_of_cell? _ _ (Hp.cell (j := 1) hH (i := 1) rfl rfl)))).trans (Hp.cell (j := 1) hH (i := 1) rfl rfl)) Tryd.isAgg3 rfl) rfl rfl rfl ?_
        refine VQ_ge rfl rfl rfl hc29 ?_
        obtain ⟨x31, hx31, hs30⟩ := Option.bind_eq_some_iff.1 hs30
        refine VQ_y (fun w' hw' => Y_indexS hx31 Tryd.underlying9 rfl rfl) rfl rfl rfl ?_
        refine VQ_ge rfl rfl rfl hc29 ?_
        refine VQ_call (.int .i64 (strings_IndexByte ends (x31.toNat : Int))) Tryd.call34 rfl rfl rfl rfl (fun w' hw' => (strings_IndexByte_c w' ends (x31.toNat : Int)).mono (fun _ _ h => ⟨h.1, h.2 ▸ hw'⟩)) ?_
        refine VQ_ge rfl rfl rfl hc29 ?_
        refine VQ_y (fun w' hw' => Y_lss rfl rfl) rfl rfl rfl ?_
        refine VQ_y (fun _ _ => Y_pick_te rfl hc29 rfl) rfl rfl rfl ?_
        obtain rfl := Option.some.inj hs30
        exact VQ_end fun a ha => ⟨(), ha.sub ⟨rfl, rfl, rfl, rfl, trivial⟩, trivial⟩
      · rw [if_neg (nt hc29)] at hs30
        refine VQ_gn rfl rfl rfl hc29 rfl rfl rfl ?_
        refine VQ_gn rfl rfl rfl hc29 rfl rfl rfl ?_
        refine VQ_gn rfl rfl rfl hc29 rfl rfl rfl ?_
        refine VQ_gn rfl rfl rfl hc29 rfl rfl rfl ?_
        refine VQ_gn rfl rfl rfl hc29 rfl rfl rfl ?_
        refine VQ_gn rfl rfl rfl hc29 rfl rfl rfl ?_
        refine VQ_gn rfl rfl rfl hc29 rfl rfl rfl ?_
        refine VQ_gn rfl rfl rfl hc29 rfl rfl rfl ?_
        refine VQ_gn rfl rfl rfl hc29 rfl rfl rfl ?_
        refine VQ_gn rfl rfl rfl hc29 rfl rfl rfl ?_
        refine VQ_gn rfl rfl rfl hc29 rfl rfl rfl ?_
        refine VQ_gn rfl rfl rfl hc29 rfl rfl rfl ?_
        refine VQ_y (fun _ _ => Y_pick_fe rfl hc29 rfl) rfl rfl rfl ?_
        obtain rfl := Option.some.inj hs30
        exact VQ_end fun a ha => ⟨(), ha.sub ⟨rfl, rfl, rfl, rfl, trivial⟩, trivial⟩
    simp only [List.take, List.drop]
    rintro _ _
    refine VQ_to (fun _ _ => rfl) (fun w33 hk34 => ?_)
    have ht35 := Kp.tr (Dw := False) hk34 hA hB
    replace hH := Hp.kp (Dw := False) hH hk34
    replace hK := Tr.trans (Dw := False) hK ht35
    replace hr8 := Tr.trans (Dw := False) hr8 ht35
    replace hB := Nat.le_trans hB ht35.ex.size
    replace hA := ht35.new
    refine C_cond rfl (fun hc36 => ?_) (fun hc36 => ?_)
    · rw [if_pos hc36] at h21
      refine C_skip_to (fun _ _ => rfl) ?_
      obtain ⟨s38, ho37, h21⟩ := Option.bind_eq_some_iff.1 h21
      refine C_cutG (ι := (Nat → Prop)) (fun (A43 : (Nat → Prop)) => [(0, .pointer (some ⟨b_r_, 0, none⟩)), (1, .string ends), (5, .pointer (some ⟨b1, 0, none⟩))]) (fun (A43 : (Nat → Prop)) => fun w' => Hp B A43 w' (obBd 36 5 b1 s38.1 :: obC b_r_ [.string s38.2.s, .int .i64 s38.2.at_, .bool s38.2.wrong] 72 :: L) ∧ Tr False B A18 w33 A43 w') ?_ ?_
      · have hr39 : Tr False B A18 w33 A18 w33 := Tr.refl (Dw := False) hA
        refine C_block ?_
        refine C_seq ?_
        refine C_region_q (Dw := False) Tryd_mixed (by kernel_rfl) ?_
        refine VQ_y (fun w' hw' => Y_move rfl) rfl rfl rfl ?_
        refine VQ_y (fun w' hw' => Y_nilCheck rfl) rfl rfl rfl ?_
        refine VQ_y (fun w' hw' => Y_fieldAddrC (off2 := 0) Tryd.underlying72 rfl Tryd.sizeOf9 (by decide) rfl rfl) rfl rfl rfl ?_
        refine VQ_y (fun w' hw' => Y_load ((World.cell?_of_block (hw'.block _ (World.block_lt_of_cell? _ _ (Hp.cell (j := 0) hH (i := 1) rfl rfl)))).trans (Hp.cell (j := 0) hH (i := 1) rfl rfl)) Tryd.isAgg9 rfl) rfl rfl rfl ?_
        refine VQ_y (fun w' hw' => Y_move rfl) rfl rfl rfl ?_
        refine VQ_y (fun w' hw' => Y_nilCheck rfl) rfl rfl rfl ?_
        refine VQ_y (fun w' hw' => Y_fieldAddrC (off2 := 1) Tryd.underlying72 rfl Tryd.sizeOf3 (by decide) rfl rfl) rfl rfl rfl ?_
        refine VQ_y (fun w' hw' => Y_load ((World.cell?_of_block (hw'.block _ (World.block_lt_of_cell? _ _ (Hp.cell (j := 1) hH (i := 1) rfl rfl)))).trans (Hp.cell (j := 1) hH (i := 1) rfl rfl)) Tryd.isAgg3 rfl) rfl rfl rfl ?_
        obtain ⟨x45, hx45, ho37⟩ := Option.bind_eq_some_iff.1 ho37
        refine VQ_y (fun w' hw' => Y_indexS hx45 Tryd.underlying9 rfl rfl) rfl rfl rfl ?_
        refine VQ_y (fun w' hw' => Y_assign rfl) rfl rfl rfl ?_
        refine VQ_to (fun _ _ => rfl) (fun w46 hk47 => ?_)
        have ht48 := Kp.tr (Dw := False) hk47 hA hB
        replace hH := Hp.kp (Dw := False) hH hk47
        replace hK := Tr.trans (Dw := False) hK ht48
        replace hr8 := Tr.trans (Dw := False) hr8 ht48
        replace hr39 := Tr.trans (Dw := False) hr39 ht48
        replace hB := Nat.le_trans hB ht48.ex.size
        replace hA := ht48.new
        refine C_seq ?_
        refine C_region ?_
        refine V_y (Y_move rfl) rfl rfl rfl ?_
        refine V_to (fun _ _ => rfl) ?_
        obtain ⟨s50, ho49, ho37⟩ := Option.bind_eq_some_iff.1 ho37
        refine C_cutG (ι := (Nat → Prop)) (fun (A55 : (Nat → Prop)) => [(0, .pointer (some ⟨b_r_, 0, none⟩)), (1, .string ends), (5, .pointer (some ⟨b1, 0, none⟩))]) (fun (A55 : (Nat → Prop)) => fun w' => Hp B A55 w' (obBd 36 5 b1 s50.1 :: obC b_r_ [.string s50.2.s, .int .i64 s50.2.at_, .bool s50.2.wrong] 72 :: L) ∧ Tr False B A18 w46 A55 w') ?_ ?_
        · have hr51 : Tr False B A18 w46 A18 w46 := Tr.refl (Dw := False) hA
          refine C_block ?_
          refine C_seq ?_
          refine C_region ?_
          refine V_y (Y_eql rfl rfl) rfl rfl rfl ?_
          refine V_y (Y_assign rfl) rfl rfl rfl ?_
          refine V_to (fun _ _ => rfl) ?_
          obtain ⟨s58, ho57, ho49⟩ := Option.bind_eq_some_iff.1 ho49
          refine C_cutG (ι := (Nat → Prop)) (fun (A63 : (Nat → Prop)) => [(0, .pointer (some ⟨b_r_, 0, none⟩)), (1, .string ends), (5, .pointer (some ⟨b1, 0, none⟩))]) (fun (A63 : (Nat → Prop)) => fun w' => Hp B A63 w' (obBd 36 5 b1 s58.1 :: obC b_r_ [.string s58.2.s, .int .i64 s58.2.at_, .bool s58.2.wrong] 72 :: L) ∧ Tr False B A18 w46 A63 w') ?_ ?_
          · have hr59 : Tr False B A18 w46 A18 w46 := Tr.refl (Dw := False) hA
            refine C_cond rfl (fun hc65 => ?_) (fun hc65 => ?_)
            · rw [if_pos hc65] at ho57
              refine C_region ?_
              refine V_y (Y_move rfl) rfl rfl rfl ?_
              replace hH : Hp B A18 w46 (obC b_r_ [.string s15.2.s, .int .i64 s15.2.at_, .bool s15.2.wrong] 72 :: obBd 36 5 b1 s15.1 :: L) := Hp.front hH (i := 1) rfl
              obtain ⟨x66, hx66, ho57⟩ := Option.bind_eq_some_iff.1 ho57
              refine V_call Tryd.call44 rfl rfl rfl rfl (know_templateReader_escaped_c (Dw := False) w46 hB hA s15.2 b_r_ (⟨#[125, 58, 124, 123, 92]⟩ : ByteArray) hH hx66) ?_
              rintro _ w67 ⟨A68, rfl, hH69, ht70⟩
              replace hK := Tr.trans (Dw := False) hK ht70
              replace hr8 := Tr.trans (Dw := False) hr8 ht70
              replace hr39 := Tr.trans (Dw := False) hr39 ht70
              replace hr51 := Tr.trans (Dw := False) hr51 ht70
              replace hr59 := Tr.trans (Dw := False) hr59 ht70
              replace hB := Nat.le_trans hB ht70.ex.size
              replace hA := ht70.new
              replace hH : Hp B A68 w67 (obC b_r_ [.string x66.2.s, .int .i64 x66.2.at_, .bool x66.2.wrong] 72 :: obBd 36 5 b1 s15.1 :: L) := hH69
              replace hH : Hp B A68 w67 (obBd 36 5 b1 s15.1 :: obC b_r_ [.string x66.2.s, .int .i64 x66.2.at_, .bool x66.2.wrong] 72 :: L) := Hp.front hH (i := 1) rfl
              obtain ⟨x71, hx71, ho57⟩ := Option.bind_eq_some_iff.1 ho57
              refine V_call Tryd.call8 rfl rfl rfl rfl (strings_Builder_WriteString_c w67 hB hA s15.1 b1 x66.1 hH hx71) ?_
              rintro _ w72 ⟨A73, rfl, hH74, ht75⟩
              replace hK := Tr.trans (Dw := False) hK ht75
              replace hr8 := Tr.trans (Dw := False) hr8 ht75
              replace hr39 := Tr.trans (Dw := False) hr39 ht75
              replace hr51 := Tr.trans (Dw := False) hr51 ht75
              replace hr59 := Tr.trans (Dw := False) hr59 ht75
              replace hB := Nat.le_trans hB ht75.ex.size
              replace hA := ht75.new
              replace hH : Hp B A73 w72 (obBd 36 5 b1 x71.2.2 :: obC b_r_ [.string x66.2.s, .int .i64 x66.2.at_, .bool x66.2.wrong] 72 :: L) := hH74
              obtain rfl := Option.some.inj ho57
              refine V_end (fun a ha76 => ?_)
              exact ⟨A73, ha76.sub ⟨rfl, rfl, rfl, trivial⟩, ⟨hH, hr59⟩⟩
            · rw [if_neg (nt hc65)] at ho57
              refine C_seq ?_
              refine C_seq ?_
              refine C_region ?_
              refine V_y (Y_eql rfl rfl) rfl rfl rfl ?_
              refine V_y (Y_assign rfl) rfl rfl rfl ?_
              refine V_to (fun _ _ => rfl) ?_
              obtain ⟨s78, ho77, ho57⟩ := Option.bind_eq_some_iff.1 ho57
              refine C_cutG (ι := Unit) (fun (_ : Unit) => [(0, .pointer (some ⟨b_r_, 0, none⟩)), (1, .string ends), (5, .pointer (some ⟨b1, 0, none⟩)), (6, .int .u8 (x45.toNat : Int)), (62, .bool s78)]) (fun (_ : Unit) => fun w' => w46 = w') ?_ ?_
              · refine C_cond rfl (fun hc83 => ?_) (fun hc83 => ?_)
                · rw [if_pos hc83] at ho77
                  obtain rfl := Option.some.inj ho77
                  refine C_skip (fun a ha84 => ?_)
                  exact ⟨(), ha84.sub ⟨rfl, rfl, rfl, rfl, rfl, trivial⟩, rfl⟩
                · rw [if_neg (nt hc83)] at ho77
                  refine C_seq ?_
                  refine C_region ?_
                  refine V_y (Y_eql rfl rfl) rfl rfl rfl ?_
                  refine V_y (Y_assign rfl) rfl rfl rfl ?_
                  refine V_to (fun _ _ => rfl) ?_
                  obtain ⟨s86, ho85, ho77⟩ := Option.bind_eq_some_iff.1 ho77
                  refine C_cutG (ι := Unit) (fun (_ : Unit) => [(0, .pointer (some ⟨b_r_, 0, none⟩)), (1, .string ends), (5, .pointer (some ⟨b1, 0, none⟩)), (6, .int .u8 (x45.toNat : Int)), (62, .bool s86)]) (fun (_ : Unit) => fun w' => w46 = w') ?_ ?_
                  · refine C_cond rfl (fun hc91 => ?_) (fun hc91 => ?_)
                    · rw [if_pos hc91] at ho85
                      obtain rfl := Option.some.inj ho85
                      refine C_skip (fun a ha92 => ?_)
                      exact ⟨(), ha92.sub ⟨rfl, rfl, rfl, rfl, rfl, trivial⟩, rfl⟩
                    · rw [if_neg (nt hc91)] at ho85
                      refine C_region ?_
                      refine V_y (Y_eql rfl rfl) rfl rfl rfl ?_
                      refine V_y (Y_assign rfl) rfl rfl rfl ?_
                      obtain rfl := Option.some.inj ho85
                      refine V_end (fun a ha93 => ?_)
                      exact ⟨(), ha93.sub ⟨rfl, rfl, rfl, rfl, rfl, trivial⟩, rfl⟩
                  rintro _ _ rfl a ha90
                  obtain rfl := Option.some.inj ho77
                  exact ⟨(), ha90.sub ⟨rfl, rfl, rfl, rfl, rfl, trivial⟩, rfl⟩
              rintro _ _ rfl a ha82
              refine C_at (n := ⟨70, [], none⟩) (fun _ _ => rfl) ?_ ha82
              obtain ⟨s96, ho95, ho57⟩ := Option.bind_eq_some_iff.1 ho57
              refine C_cutG (ι := (Nat → Prop)) (fun (A101 : (Nat → Prop)) => [(0, .pointer (some ⟨b_r_, 0, none⟩)), (1, .string ends), (5, .pointer (some ⟨b1, 0, none⟩))]) (fun (A101 : (Nat → Prop)) => fun w' => Hp B A101 w' (obBd 36 5 b1 s96.1 :: obC b_r_ [.string s96.2.s, .int .i64 s96.2.at_, .bool s96.2.wrong] 72 :: L) ∧ Tr False B A18 w46 A101 w') ?_ ?_
              · have hr97 : Tr False B A18 w46 A18 w46 := Tr.refl (Dw := False) hA
                refine C_cond rfl (fun hc103 => ?_) (fun hc103 => ?_)
                · rw [if_pos hc103] at ho95
                  refine C_region ?_
                  refine V_y (Y_move rfl) rfl rfl rfl ?_
                  refine V_y (Y_nilCheck rfl) rfl rfl rfl ?_
                  refine V_y (Y_fieldAddrC (off2 := 2) Tryd.underlying72 rfl Tryd.sizeOf4 (by decide) rfl rfl) rfl rfl rfl ?_
                  refine V_storeC (Dw := False) (off := 2) (ds := [.string s15.2.s, .int .i64 s15.2.at_, .bool true]) hH (i := 1) rfl Tryd.sizeOf4 rfl (Nat.le_of_ble_eq_true rfl) (by simp [Value.cells, Value.oneCell']) rfl hB hA rfl rfl ?_
                  intro w104 hH105 ht106
                  replace hK := Tr.trans (Dw := False) hK ht106
                  replace hr8 := Tr.trans (Dw := False) hr8 ht106
                  replace hr39 := Tr.trans (Dw := False) hr39 ht106
                  replace hr51 := Tr.trans (Dw := False) hr51 ht106
                  replace hr59 := Tr.trans (Dw := False) hr59 ht106
                  replace hr97 := Tr.trans (Dw := False) hr97 ht106
                  replace hB := Nat.le_trans hB ht106.ex.size
                  replace hA := ht106.new
                  replace hH : Hp B A18 w104 (obBd 36 5 b1 s15.1 :: obC b_r_ [.string s15.2.s, .int .i64 s15.2.at_, .bool true] 72 :: L) := hH105
                  obtain rfl := Option.some.inj ho95
                  refine V_end (fun a ha107 => ?_)
                  exact ⟨A18, ha107.sub ⟨rfl, rfl, rfl, trivial⟩, ⟨hH, hr97⟩⟩
                · rw [if_neg (nt hc103)] at ho95
                  refine C_seq ?_
                  refine C_region ?_
                  refine V_y (Y_move rfl) rfl rfl rfl ?_
                  obtain ⟨x108, hx108, ho95⟩ := Option.bind_eq_some_iff.1 ho95
                  refine V_call Tryd.call45 rfl rfl rfl rfl (strings_Builder_WriteByte_c w46 hB hA s15.1 b1 x45 hH hx108) ?_
                  rintro _ w109 ⟨A110, rfl, hH111, ht112⟩
                  replace hK := Tr.trans (Dw := False) hK ht112
                  replace hr8 := Tr.trans (Dw := False) hr8 ht112
                  replace hr39 := Tr.trans (Dw := False) hr39 ht112
                  replace hr51 := Tr.trans (Dw := False) hr51 ht112
                  replace hr59 := Tr.trans (Dw := False) hr59 ht112
                  replace hr97 := Tr.trans (Dw := False) hr97 ht112
                  replace hB := Nat.le_trans hB ht112.ex.size
                  replace hA := ht112.new
                  replace hH : Hp B A110 w109 (obBd 36 5 b1 x108.2 :: obC b_r_ [.string s15.2.s, .int .i64 s15.2.at_, .bool s15.2.wrong] 72 :: L) := hH111
                  refine V_to (fun _ _ => rfl) ?_
                  refine C_region ?_
                  refine V_y (Y_move rfl) rfl rfl rfl ?_
                  refine V_y (Y_nilCheck rfl) rfl rfl rfl ?_
                  refine V_y (Y_fieldAddrC (off2 := 1) Tryd.underlying72 rfl Tryd.sizeOf3 (by decide) rfl rfl) rfl rfl rfl ?_
                  refine V_y (Y_load (Hp.cell (j := 1) hH (i := 1) rfl rfl) Tryd.isAgg3 rfl) rfl rfl rfl ?_
                  refine V_y (Y_addI rfl rfl) rfl rfl rfl ?_
                  refine V_y (Y_nilCheck rfl) rfl rfl rfl ?_
                  refine V_y (Y_fieldAddrC (off2 := 1) Tryd.underlying72 rfl Tryd.sizeOf3 (by decide) rfl rfl) rfl rfl rfl ?_
                  refine V_storeC (Dw := False) (off := 1) (ds := [.string s15.2.s, .int .i64 (w64 (s15.2.at_ + 1)), .bool s15.2.wrong]) hH (i := 1) rfl Tryd.sizeOf3 rfl (Nat.le_of_ble_eq_true rfl) (by simp [Value.cells, Value.oneCell']) rfl hB hA rfl rfl ?_
                  intro w113 hH114 ht115
                  replace hK := Tr.trans (Dw := False) hK ht115
                  replace hr8 := Tr.trans (Dw := False) hr8 ht115
                  replace hr39 := Tr.trans (Dw := False) hr39 ht115
                  replace hr51 := Tr.trans (Dw := False) hr51 ht115
                  replace hr59 := Tr.trans (Dw := False) hr59 ht115
                  replace hr97 := Tr.trans (Dw := False) hr97 ht115
                  replace hB := Nat.le_trans hB ht115.ex.size
                  replace hA := ht115.new
                  replace hH : Hp B A110 w113 (obBd 36 5 b1 x108.2 :: obC b_r_ [.string s15.2.s, .int .i64 (w64 (s15.2.at_ + 1)), .bool s15.2.wrong] 72 :: L) := hH114
                  obtain rfl := Option.some.inj ho95
                  refine V_end (fun a ha116 => ?_)
                  exact ⟨A110, ha116.sub ⟨rfl, rfl, rfl, trivial⟩, ⟨hH, hr97⟩⟩
              rintro A101 w98 ⟨hH102, hk99⟩ a ha100
              replace hK := Tr.trans (Dw := False) hK hk99
              replace hr8 := Tr.trans (Dw := False) hr8 hk99
              replace hr39 := Tr.trans (Dw := False) hr39 hk99
              replace hr51 := Tr.trans (Dw := False) hr51 hk99
              replace hr59 := Tr.trans (Dw := False) hr59 hk99
              replace hB := Nat.le_trans hB hk99.ex.size
              replace hA := hk99.new
              replace hH : Hp B A101 w98 (obBd 36 5 b1 s96.1 :: obC b_r_ [.string s96.2.s, .int .i64 s96.2.at_, .bool s96.2.wrong] 72 :: L) := hH102
              obtain rfl := Option.some.inj ho57
              exact ⟨A101, ha100.sub ⟨rfl, rfl, rfl, trivial⟩, ⟨hH, hr59⟩⟩
          rintro A63 w60 ⟨hH64, hk61⟩ a ha62
          replace hK := Tr.trans (Dw := False) hK hk61
          replace hr8 := Tr.trans (Dw := False) hr8 hk61
          replace hr39 := Tr.trans (Dw := False) hr39 hk61
          replace hr51 := Tr.trans (Dw := False) hr51 hk61
          replace hB := Nat.le_trans hB hk61.ex.size
          replace hA := hk61.new
          replace hH : Hp B A63 w60 (obBd 36 5 b1 s58.1 :: obC b_r_ [.string s58.2.s, .int .i64 s58.2.at_, .bool s58.2.wrong] 72 :: L) := hH64
          obtain rfl := Option.some.inj ho49
          exact ⟨A63, ha62.sub ⟨rfl, rfl, rfl, trivial⟩, ⟨hH, hr51⟩⟩
        rintro A55 w52 ⟨hH56, hk53⟩ a ha54
        replace hK := Tr.trans (Dw := False) hK hk53
        replace hr8 := Tr.trans (Dw := False) hr8 hk53
        replace hr39 := Tr.trans (Dw := False) hr39 hk53
        replace hB := Nat.le_trans hB hk53.ex.size
        replace hA := hk53.new
        replace hH : Hp B A55 w52 (obBd 36 5 b1 s50.1 :: obC b_r_ [.string s50.2.s, .int .i64 s50.2.at_, .bool s50.2.wrong] 72 :: L) := hH56
        obtain rfl := Option.some.inj ho37
        exact ⟨A55, ha54.sub ⟨rfl, rfl, rfl, trivial⟩, ⟨hH, hr39⟩⟩
      rintro A43 w40 ⟨hH44, hk41⟩ a ha42
      replace hK := Tr.trans (Dw := False) hK hk41
      replace hr8 := Tr.trans (Dw := False) hr8 hk41
      replace hB := Nat.le_trans hB hk41.ex.size
      replace hA := hk41.new
      replace hH : Hp B A43 w40 (obBd 36 5 b1 s38.1 :: obC b_r_ [.string s38.2.s, .int .i64 s38.2.at_, .bool s38.2.wrong] 72 :: L) := hH44
      obtain rfl := Option.some.inj h21
      exact ⟨(s38.1, s38.2), h22, ⟨A43, ha42.sub ⟨rfl, rfl, rfl, trivial⟩, ⟨hH, hr8⟩⟩⟩
    · rw [if_neg (nt hc36)] at h21
      obtain rfl := Option.some.inj h21
      refine C_exit (fun a ha121 => ?_)
      exact ⟨((s15.1, s15.2), A18), ha121.sub ⟨rfl, trivial⟩, ⟨h22.symm, hH, hr8⟩⟩
  rintro ⟨s7, A13⟩ w10 ⟨rfl, hH14, hk11⟩ a ha12
  rw [Lp.andThen_fin] at hm
  replace hK := Tr.trans (Dw := False) hK hk11
  replace hB := Nat.le_trans hB hk11.ex.size
  replace hA := hk11.new
  replace hH : Hp B A13 w10 (obBd 36 5 b1 s7.1 :: obC b_r_ [.string s7.2.s, .int .i64 s7.2.at_, .bool s7.2.wrong] 72 :: L) := hH14
  refine C_at (n := ⟨70, [], none⟩) (fun _ _ => rfl) ?_ ha12
  refine C_seq ?_
  refine C_region ?_
  obtain ⟨x123, hx123, hm⟩ := Option.bind_eq_some_iff.1 hm
  refine V_call Tryd.call10 rfl rfl rfl rfl (strings_Builder_String_c w10 hB hA s7.1 b1 hH hx123) ?_
  rintro _ w124 ⟨A125, rfl, hH126, ht127⟩
  replace hK := Tr.trans (Dw := False) hK ht127
  replace hB := Nat.le_trans hB ht127.ex.size
  replace hA := ht127.new
  replace hH : Hp B A125 w124 (obBd 36 5 b1 s7.1 :: obC b_r_ [.string s7.2.s, .int .i64 s7.2.at_, .bool s7.2.wrong] 72 :: L) := hH126
  refine V_y (Y_assign rfl) rfl rfl rfl ?_
  refine V_to (fun _ _ => rfl) ?_
  obtain rfl := Option.some.inj hm
  replace hH : Hp B A125 w124 (obC b_r_ [.string s7.2.s, .int .i64 s7.2.at_, .bool s7.2.wrong] 72 :: obBd 36 5 b1 s7.1 :: L) := Hp.front hH (i := 1) rfl
  replace hH : Hp B A125 w124 (obC b_r_ [.string s7.2.s, .int .i64 s7.2.at_, .bool s7.2.wrong] 72 :: L) := Hp.drop hH (i := 1) rfl
  refine C_ret ?_
  try simp only [↓inBlock_ret, ↓then_ret]
  exact retQ rfl (Res.one Tryd.results47 rfl) ⟨A125, rfl, hH, hK⟩

end Go.Proofs.YtfdhiclmjfkflaaDoor.W
