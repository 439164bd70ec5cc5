/-
  Written by program (gen.py) from the IR of the dump: each function computes its model.
-/
import Derived.Test.YtpkkbbcflmbjeaaDoorProg
import Derived.Test.YtpkkbbcflmbjeaaDoorGe
import Derived.Test.YtpkkbbcflmbjeaaDoorLevelChecksM
import Derived.KernelRfl
import Derived.Shelf.Strings.BuilderK
import Derived.Shelf.Strings.BuilderK
import Derived.Shelf.Strings.BuilderK
import Derived.Shelf.Strconv.Itoa3
import Derived.Shelf.Strings.OnBuilder
import Derived.Shelf.Strings.SlTrimAscii
import Derived.Test.YtpkkbbcflmbjeaaDoorGi
import Derived.Test.YtpkkbbcflmbjeaaDoorHa
import Derived.Test.YtpkkbbcflmbjeaaDoorGj
import Derived.Test.YtpkkbbcflmbjeaaDoorGg
import Derived.Test.YtpkkbbcflmbjeaaDoorHl
import Derived.Test.YtpkkbbcflmbjeaaDoorGl
import Derived.Test.YtpkkbbcflmbjeaaDoorHd
import Derived.Test.YtpkkbbcflmbjeaaDoorGv
namespace Go.Proofs.YtpkkbbcflmbjeaaDoor.W
open Go Go.RowKit Go.Pu Go.Gw Go.Proofs Go.Proofs.YtpkkbbcflmbjeaaDoor.M
set_option linter.unusedVariables false
set_option linter.unusedSimpArgs false
variable {Dw : Prop}

def Tryd_FR : (Nat → Prop) → World → Prop := fun A w => Tb Tryd.prog A w ∧ Gs 0 portref2_valueWords A w ∧ Gs 1 portref2_targetWords A w
instance : Keeps Tryd_FR := ⟨fun h hh hs => ⟨Keeps.to (R := Tb Tryd.prog) ((h).1) hh hs, Keeps.to (R := Gs 0 portref2_valueWords) ((h).2.1) hh hs, Keeps.to (R := Gs 1 portref2_targetWords) ((h).2.2) hh hs⟩⟩
theorem Tryd_info9 : Tryd.prog.info? 9 = some Tryd.t9 := by kernel_rfl
theorem Tryd_mixed : Tryd.prog.follows .mixedOrders = true := by kernel_rfl

instance : GoT AnyV := anyT 9 3
instance : Flat AnyV := anyFlat 9 3
instance : GoT api_Value := GoT.of (β := Int × Int × ByteArray) fun x => (x.kind, x.int, x.text)

instance : Flat api_Value := ⟨fun {A w A1 w1 cs x} h => Flat.flat (α := Int × Int × ByteArray) (x := (x.kind, x.int, x.text)) (A := A) (w := w) h⟩

theorem El_api_Value_ {A : Nat → Prop} {w : World} {b off : Nat} {x : api_Value} (h : El A w b off x) : El (α := Int × Int × ByteArray) A w b off (x.kind, x.int, x.text) := h

theorem El_api_Value_0 {A : Nat → Prop} {w : World} {b off : Nat} {x : api_Value} (h : El A w b off x) : El A w b (off + 0) x.kind := El.fst (El_api_Value_ h)

theorem El_api_Value_1 {A : Nat → Prop} {w : World} {b off : Nat} {x : api_Value} (h : El A w b off x) : El A w b (off + 1) x.int := El.fst (El.snd (El_api_Value_ h))

theorem El_api_Value_2 {A : Nat → Prop} {w : World} {b off : Nat} {x : api_Value} (h : El A w b off x) : El A w b (off + 2) x.text := El.snd (El.snd (El_api_Value_ h))

theorem El_api_Value {A : Nat → Prop} {w : World} {b off : Nat} {x : api_Value} (h : El A w b off x) : At w b off [.int .i64 x.kind, .int .i64 x.int, .string x.text] ∧ True := by
  obtain ⟨h1, h2, cs, h3, h4⟩ := h
  obtain ⟨_, _, rfl, rfl, ⟨_, _, rfl, rfl, rfl⟩⟩ := h3
  exact ⟨h4, trivial⟩

instance : GoT level_Test := GoT.of (β := Int × api_Value) fun x => (x.field, x.value)

instance : Flat level_Test := ⟨fun {A w A1 w1 cs x} h => Flat.flat (α := Int × api_Value) (x := (x.field, x.value)) (A := A) (w := w) h⟩

theorem El_level_Test_ {A : Nat → Prop} {w : World} {b off : Nat} {x : level_Test} (h : El A w b off x) : El (α := Int × api_Value) A w b off (x.field, x.value) := h

theorem El_level_Test_0 {A : Nat → Prop} {w : World} {b off : Nat} {x : level_Test} (h : El A w b off x) : El A w b (off + 0) x.field := El.fst (El_level_Test_ h)

theorem El_level_Test_1 {A : Nat → Prop} {w : World} {b off : Nat} {x : level_Test} (h : El A w b off x) : El A w b (off + 1) x.value := El.snd (El_level_Test_ h)

theorem El_level_Test {A : Nat → Prop} {w : World} {b off : Nat} {x : level_Test} (h : El A w b off x) : At w b off [.int .i64 x.field, .int .i64 x.value.kind, .int .i64 x.value.int, .string x.value.text] ∧ True := by
  obtain ⟨h1, h2, cs, h3, h4⟩ := h
  obtain ⟨_, _, rfl, rfl, ⟨_, _, rfl, rfl, ⟨_, _, rfl, rfl, rfl⟩⟩⟩ := h3
  exact ⟨h4, trivial⟩

instance : GoT level_Target := GoT.of (β := Int × Int × Int) fun x => (x.kind, x.minutes, x.calendar)

instance : Flat level_Target := ⟨fun {A w A1 w1 cs x} h => Flat.flat (α := Int × Int × Int) (x := (x.kind, x.minutes, x.calendar)) (A := A) (w := w) h⟩

theorem El_level_Target_ {A : Nat → Prop} {w : World} {b off : Nat} {x : level_Target} (h : El A w b off x) : El (α := Int × Int × Int) A w b off (x.kind, x.minutes, x.calendar) := h

theorem El_level_Target_0 {A : Nat → Prop} {w : World} {b off : Nat} {x : level_Target} (h : El A w b off x) : El A w b (off + 0) x.kind := El.fst (El_level_Target_ h)

theorem El_level_Target_1 {A : Nat → Prop} {w : World} {b off : Nat} {x : level_Target} (h : El A w b off x) : El A w b (off + 1) x.minutes := El.fst (El.snd (El_level_Target_ h))

theorem El_level_Target_2 {A : Nat → Prop} {w : World} {b off : Nat} {x : level_Target} (h : El A w b off x) : El A w b (off + 2) x.calendar := El.snd (El.snd (El_level_Target_ h))

theorem El_level_Target {A : Nat → Prop} {w : World} {b off : Nat} {x : level_Target} (h : El A w b off x) : At w b off [.int .i64 x.kind, .int .i64 x.minutes, .int .i64 x.calendar] ∧ True := by
  obtain ⟨h1, h2, cs, h3, h4⟩ := h
  obtain ⟨_, _, rfl, rfl, ⟨_, _, rfl, rfl, rfl⟩⟩ := h3
  exact ⟨h4, trivial⟩

instance : GoT level_Level := GoT.of (β := ByteArray × (List level_Test) × (List level_Target)) fun x => (x.name, x.tests, x.targets)

theorem El_level_Level_ {A : Nat → Prop} {w : World} {b off : Nat} {x : level_Level} (h : El A w b off x) : El (α := ByteArray × (List level_Test) × (List level_Target)) A w b off (x.name, x.tests, x.targets) := h

theorem El_level_Level_0 {A : Nat → Prop} {w : World} {b off : Nat} {x : level_Level} (h : El A w b off x) : El A w b (off + 0) x.name := El.fst (El_level_Level_ h)

theorem El_level_Level_1 {A : Nat → Prop} {w : World} {b off : Nat} {x : level_Level} (h : El A w b off x) : El A w b (off + 1) x.tests := El.fst (El.snd (El_level_Level_ h))

theorem El_level_Level_2 {A : Nat → Prop} {w : World} {b off : Nat} {x : level_Level} (h : El A w b off x) : El A w b (off + 2) x.targets := El.snd (El.snd (El_level_Level_ h))

theorem El_level_Level {A : Nat → Prop} {w : World} {b off : Nat} {x : level_Level} (h : El A w b off x) : ∃ v1 v3, At w b off [.string x.name, v1, v3] ∧ Sl A w v1 x.tests ∧ Sl A w v3 x.targets := by
  obtain ⟨h1, h2, cs, h3, h4⟩ := h
  obtain ⟨_, _, rfl, rfl, ⟨_, _, rfl, ⟨u1, rfl, g1⟩, ⟨u2, rfl, g2⟩⟩⟩ := h3
  exact ⟨u1, u2, h4, g1, g2⟩

instance : GoT level_Policy := GoT.of (β := (List Int) × (List level_Level)) fun x => (x.pauses, x.levels)

theorem El_level_Policy_ {A : Nat → Prop} {w : World} {b off : Nat} {x : level_Policy} (h : El A w b off x) : El (α := (List Int) × (List level_Level)) A w b off (x.pauses, x.levels) := h

theorem El_level_Policy_0 {A : Nat → Prop} {w : World} {b off : Nat} {x : level_Policy} (h : El A w b off x) : El A w b (off + 0) x.pauses := El.fst (El_level_Policy_ h)

theorem El_level_Policy_1 {A : Nat → Prop} {w : World} {b off : Nat} {x : level_Policy} (h : El A w b off x) : El A w b (off + 1) x.levels := El.snd (El_level_Policy_ h)

theorem El_level_Policy {A : Nat → Prop} {w : World} {b off : Nat} {x : level_Policy} (h : El A w b off x) : ∃ v1 v3, At w b off [v1, v3] ∧ Sl A w v1 x.pauses ∧ Sl A w v3 x.levels := by
  obtain ⟨h1, h2, cs, h3, h4⟩ := h
  obtain ⟨_, _, rfl, ⟨u1, rfl, g1⟩, ⟨u2, rfl, g2⟩⟩ := h3
  exact ⟨u1, u2, h4, g1, g2⟩

def Tryd_contains_lay_ren : Go.Shelf.Ren := ⟨fun | 15 => 59 | 17 => 47 | 20 => 65 | n => n, fun | 0 => 0 | 1 => 1 | 2 => 2 | 3 => 3 | 4 => 4 | 5 => 5 | 6 => 6 | 7 => 7 | 8 => 8 | 9 => 9 | 10 => 10 | 11 => 11 | 12 => 12 | 13 => 13 | 14 => 14 | 15 => 15 | 16 => 16 | 17 => 17 | 18 => 18 | 19 => 19 | 20 => 20 | 21 => 21 | 23 => 89 | 26 => 102 | 28 => 88 | 29 => 101 | 30 => 105 | 31 => 99 | 32 => 100 | 33 => 98 | 34 => 108 | 35 => 95 | 36 => 109 | 37 => 110 | 38 => 111 | 39 => 55 | 40 => 114 | 41 => 115 | 42 => 116 | 43 => 117 | 44 => 118 | 45 => 119 | 46 => 93 | 47 => 120 | 48 => 121 | 49 => 122 | 50 => 61 | 51 => 123 | 52 => 124 | 53 => 125 | 54 => 126 | 55 => 68 | n => n, fun | 0 => 6 | 1 => 7 | n => n⟩
theorem Tryd_contains_lay : Go.Proofs.LaysGw.n17 Tryd.prog Tryd_contains_lay_ren := {
  mixed := by kernel_rfl,
  f15 := Tryd.func59.trans (congrArg some (by kernel_rfl)),
  f17 := Tryd.func47.trans (congrArg some (by kernel_rfl)),
  f20 := Tryd.func65.trans (congrArg some (by kernel_rfl)),
  t0 := Tryd.underlying0,
  a0 := Tryd.isAgg0,
  z0 := Tryd.sizeOf0,
  v0 := Tryd.zeroValue0,
  i0 := by kernel_rfl,
  t3 := Tryd.underlying3,
  a3 := Tryd.isAgg3,
  z3 := Tryd.sizeOf3,
  v3 := Tryd.zeroValue3,
  i3 := by kernel_rfl,
  t4 := Tryd.underlying4,
  a4 := Tryd.isAgg4,
  z4 := Tryd.sizeOf4,
  v4 := Tryd.zeroValue4,
  i4 := by kernel_rfl,
  t9 := Tryd.underlying9,
  a9 := Tryd.isAgg9,
  z9 := Tryd.sizeOf9,
  v9 := Tryd.zeroValue9,
  i9 := by kernel_rfl,
  t21 := Tryd.underlying21,
  a21 := Tryd.isAgg21,
  z21 := Tryd.sizeOf21,
  v21 := Tryd.zeroValue21,
  i21 := by kernel_rfl,
  t23 := Tryd.underlying89,
  a23 := Tryd.isAgg89,
  z23 := Tryd.sizeOf89,
  v23 := Tryd.zeroValue89,
  i23 := by kernel_rfl }

set_option maxRecDepth 4000 in
set_option maxHeartbeats 4000000 in
theorem level_within_c (w : World) (n : Int) (low : Int) (high : Int) : Ret Tryd.prog 11 #[.int .i64 n, .int .i64 low, .int .i64 high] w fun v w' => v = .bool (level_within n low high) ∧ w = w' := by
  generalize hm : level_within n low high = r
  unfold level_within at hm
  refine enter Tryd.func11 rfl Tryd.ntmps11 rfl ?_
  refine C_seq ?_
  refine C_region ?_
  refine V_y (Y_assign rfl) rfl rfl rfl ?_
  refine V_to (fun _ _ => rfl) ?_
  refine C_seq ?_
  refine C_region ?_
  refine V_y (Y_move rfl) rfl rfl rfl ?_
  refine V_y (Y_move rfl) rfl rfl rfl ?_
  refine V_y (Y_geq rfl rfl) rfl rfl rfl ?_
  refine V_y (Y_move rfl) rfl rfl rfl ?_
  refine V_cut 4 (fun _ : Unit => [(14, .bool ((decide (low ≤ n)) && (decide (n ≤ high))))]) (fun _ w' => w = w') ?_ ?_
  · simp only [List.take, List.drop]
    rcases Bool.eq_false_or_eq_true (decide (low ≤ n)) with hc1 | hc1
    · refine V_ge rfl rfl rfl hc1 ?_
      refine V_y (Y_move rfl) rfl rfl rfl ?_
      refine V_ge rfl rfl rfl hc1 ?_
      refine V_y (Y_move rfl) rfl rfl rfl ?_
      refine V_ge rfl rfl rfl hc1 ?_
      refine V_y (Y_leq rfl rfl) rfl rfl rfl ?_
      refine V_y (Y_pick_te rfl hc1 rfl) rfl rfl rfl ?_
      exact V_end fun a ha => ⟨(), ha.sub ⟨(by rw [hc1]; rfl), trivial⟩, rfl⟩
    · refine V_gn rfl rfl rfl hc1 rfl rfl rfl ?_
      refine V_gn rfl rfl rfl hc1 rfl rfl rfl ?_
      refine V_gn rfl rfl rfl hc1 rfl rfl rfl ?_
      refine V_y (Y_pick_fe rfl hc1 rfl) rfl rfl rfl ?_
      exact V_end fun a ha => ⟨(), ha.sub ⟨(by rw [hc1]; rfl), trivial⟩, rfl⟩
  simp only [List.take, List.drop]
  rintro _ _ rfl
  refine V_y (Y_assign rfl) rfl rfl rfl ?_
  refine V_to (fun _ _ => rfl) ?_
  obtain rfl := hm
  refine C_ret ?_
  try simp only [↓inBlock_ret, ↓then_ret]
  exact retQ rfl (Res.one Tryd.results11 rfl) ⟨rfl, rfl⟩

set_option maxRecDepth 4000 in
set_option maxHeartbeats 4000000 in
theorem level_name_c (w : World) (s : ByteArray) {r : Bool} (hm : level_name s = some r) : Ret Tryd.prog 16 #[.string s] w fun v w' => v = .bool r ∧ w = w' := by
  unfold level_name at hm
  refine enter Tryd.func16 rfl Tryd.ntmps16 rfl ?_
  refine C_seq ?_
  refine C_region ?_
  refine V_y (Y_assign rfl) rfl rfl rfl ?_
  refine V_to (fun _ _ => rfl) ?_
  refine C_seq ?_
  refine C_seq ?_
  refine C_region ?_
  refine V_y (Y_move rfl) rfl rfl rfl ?_
  refine V_y (Y_lenStr rfl Tryd.underlying9 rfl) rfl rfl rfl ?_
  refine V_y (Y_move rfl) rfl rfl rfl ?_
  refine V_to (fun _ _ => rfl) ?_
  obtain ⟨o1, ho1, hm⟩ := Option.bind_eq_some_iff.1 hm
  refine C_cutG (ι := Int) (fun (s2 : Int) => [(0, .string s)]) (fun (s2 : Int) => fun w' => o1 = .fin s2 ∧ w = w') ?_ ?_
  · refine C_block ?_
    refine C_while ho1 (fun s8 a w' => ∃ i : Unit, Has ⟨41, [], none⟩ a ([(0, .string s), (6, .int .i64 (s.size : Int)), (7, .int .i64 s8)]) ∧ w = w') (fun a ha => ⟨(), ha.sub ⟨rfl, rfl, rfl, trivial⟩, rfl⟩) ?_
    rintro K s8 a _ ⟨_, ha30, rfl⟩ K16
    refine C_of ?_ ha30
    obtain ⟨x10, h11, h12⟩ := K16
    refine C_seq ?_
    refine C_region ?_
    refine V_y (Y_lss rfl rfl) rfl rfl rfl ?_
    refine V_to (fun _ _ => rfl) ?_
    refine C_seq ?_
    refine C_cond rfl (fun hc17 => ?_) (fun hc17 => ?_)
    · rw [if_pos hc17] at h11
      refine C_skip_to (fun _ _ => rfl) ?_
      refine C_seq ?_
      refine C_block ?_
      refine C_seq ?_
      refine C_region ?_
      refine V_y (Y_move rfl) rfl rfl rfl ?_
      refine V_y (Y_assign rfl) rfl rfl rfl ?_
      refine V_to (fun _ _ => rfl) ?_
      refine C_seq ?_
      refine C_region ?_
      refine V_y (Y_move rfl) rfl rfl rfl ?_
      refine V_y (Y_move rfl) rfl rfl rfl ?_
      obtain ⟨x18, hx18, h11⟩ := Option.bind_eq_some_iff.1 h11
      refine V_y (Y_indexS hx18 Tryd.underlying9 rfl rfl) rfl rfl rfl ?_
      refine V_y (Y_assign rfl) rfl rfl rfl ?_
      refine V_to (fun _ _ => rfl) ?_
      refine C_seq ?_
      refine C_region ?_
      refine V_y (Y_move rfl) rfl rfl rfl ?_
      refine V_y (Y_geq rfl rfl) rfl rfl rfl ?_
      refine V_y (Y_move rfl) rfl rfl rfl ?_
      refine V_cut 3 (fun _ : Unit => [(0, .string s), (4, .int .u8 (x18.toNat : Int)), (6, .int .i64 (s.size : Int)), (7, .int .i64 s8), (18, .bool ((decide ((97 : Int) ≤ (x18.toNat : Int))) && (decide ((x18.toNat : Int) ≤ 122))))]) (fun _ w' => w = w') ?_ ?_
      · simp only [List.take, List.drop]
        rcases Bool.eq_false_or_eq_true (decide ((97 : Int) ≤ (x18.toNat : Int))) with hc19 | hc19
        · refine V_ge rfl rfl rfl hc19 ?_
          refine V_y (Y_move rfl) rfl rfl rfl ?_
          refine V_ge rfl rfl rfl hc19 ?_
          refine V_y (Y_leq rfl rfl) rfl rfl rfl ?_
          refine V_y (Y_pick_te rfl hc19 rfl) rfl rfl rfl ?_
          exact V_end fun a ha => ⟨(), ha.sub ⟨rfl, rfl, rfl, rfl, (by rw [hc19]; rfl), trivial⟩, rfl⟩
        · refine V_gn rfl rfl rfl hc19 rfl rfl rfl ?_
          refine V_gn rfl rfl rfl hc19 rfl rfl rfl ?_
          refine V_y (Y_pick_fe rfl hc19 rfl) rfl rfl rfl ?_
          exact V_end fun a ha => ⟨(), ha.sub ⟨rfl, rfl, rfl, rfl, (by rw [hc19]; rfl), trivial⟩, rfl⟩
      simp only [List.take, List.drop]
      rintro _ _ rfl
      refine V_y (Y_not rfl) rfl rfl rfl ?_
      refine V_y (Y_move rfl) rfl rfl rfl ?_
      refine V_cut 8 (fun _ : Unit => [(0, .string s), (4, .int .u8 (x18.toNat : Int)), (6, .int .i64 (s.size : Int)), (7, .int .i64 s8), (28, .bool ((!((decide ((97 : Int) ≤ (x18.toNat : Int))) && (decide ((x18.toNat : Int) ≤ 122)))) && (!((decide ((48 : Int) ≤ (x18.toNat : Int))) && (decide ((x18.toNat : Int) ≤ 57))))))]) (fun _ w' => w = w') ?_ ?_
      · simp only [List.take, List.drop]
        rcases Bool.eq_false_or_eq_true (!((decide ((97 : Int) ≤ (x18.toNat : Int))) && (decide ((x18.toNat : Int) ≤ 122)))) with hc21 | hc21
        · refine V_ge rfl rfl rfl hc21 ?_
          refine V_y (Y_move rfl) rfl rfl rfl ?_
          refine V_ge rfl rfl rfl hc21 ?_
          refine V_y (Y_geq rfl rfl) rfl rfl rfl ?_
          refine V_ge rfl rfl rfl hc21 ?_
          refine V_y (Y_move rfl) rfl rfl rfl ?_
          refine V_cut 3 (fun _ : Unit => [(0, .string s), (4, .int .u8 (x18.toNat : Int)), (6, .int .i64 (s.size : Int)), (7, .int .i64 s8), (20, .bool (!((decide ((97 : Int) ≤ (x18.toNat : Int))) && (decide ((x18.toNat : Int) ≤ 122))))), (26, .bool ((decide ((48 : Int) ≤ (x18.toNat : Int))) && (decide ((x18.toNat : Int) ≤ 57))))]) (fun _ w' => w = w') ?_ ?_
          · simp only [List.take, List.drop]
            rcases Bool.eq_false_or_eq_true (decide ((48 : Int) ≤ (x18.toNat : Int))) with hc23 | hc23
            · refine V_ge rfl rfl rfl hc23 ?_
              refine V_y (Y_move rfl) rfl rfl rfl ?_
              refine V_ge rfl rfl rfl hc23 ?_
              refine V_y (Y_leq rfl rfl) rfl rfl rfl ?_
              refine V_ge rfl rfl rfl hc21 ?_
              refine V_y (Y_pick_te rfl hc23 rfl) rfl rfl rfl ?_
              exact V_end fun a ha => ⟨(), ha.sub ⟨rfl, rfl, rfl, rfl, rfl, (by rw [hc23]; rfl), trivial⟩, rfl⟩
            · refine V_gn rfl rfl rfl hc23 rfl rfl rfl ?_
              refine V_gn rfl rfl rfl hc23 rfl rfl rfl ?_
              refine V_ge rfl rfl rfl hc21 ?_
              refine V_y (Y_pick_fe rfl hc23 rfl) rfl rfl rfl ?_
              exact V_end fun a ha => ⟨(), ha.sub ⟨rfl, rfl, rfl, rfl, rfl, (by rw [hc23]; rfl), trivial⟩, rfl⟩
          simp only [List.take, List.drop]
          rintro _ _ rfl
          refine V_ge rfl rfl rfl hc21 ?_
          refine V_y (Y_not rfl) rfl rfl rfl ?_
          refine V_y (Y_pick_te rfl hc21 rfl) rfl rfl rfl ?_
          exact V_end fun a ha => ⟨(), ha.sub ⟨rfl, rfl, rfl, rfl, (by rw [hc21]; rfl), trivial⟩, rfl⟩
        · refine V_gn rfl rfl rfl hc21 rfl rfl rfl ?_
          refine V_gn rfl rfl rfl hc21 rfl rfl rfl ?_
          refine V_gn rfl rfl rfl hc21 rfl rfl rfl ?_
          refine V_gu rfl rfl rfl rfl rfl ?_
          refine V_gu rfl rfl rfl rfl rfl ?_
          refine V_gn rfl rfl rfl hc21 rfl rfl rfl ?_
          refine V_gn rfl rfl rfl hc21 rfl rfl rfl ?_
          refine V_y (Y_pick_fe rfl hc21 rfl) rfl rfl rfl ?_
          exact V_end fun a ha => ⟨(), ha.sub ⟨rfl, rfl, rfl, rfl, (by rw [hc21]; rfl), trivial⟩, rfl⟩
      simp only [List.take, List.drop]
      rintro _ _ rfl
      refine V_y (Y_move rfl) rfl rfl rfl ?_
      refine V_cut 3 (fun _ : Unit => [(0, .string s), (6, .int .i64 (s.size : Int)), (7, .int .i64 s8), (32, .bool (((!((decide ((97 : Int) ≤ (x18.toNat : Int))) && (decide ((x18.toNat : Int) ≤ 122)))) && (!((decide ((48 : Int) ≤ (x18.toNat : Int))) && (decide ((x18.toNat : Int) ≤ 57))))) && ((x18.toNat : Int) != 95)))]) (fun _ w' => w = w') ?_ ?_
      · simp only [List.take, List.drop]
        rcases Bool.eq_false_or_eq_true (((!((decide ((97 : Int) ≤ (x18.toNat : Int))) && (decide ((x18.toNat : Int) ≤ 122)))) && (!((decide ((48 : Int) ≤ (x18.toNat : Int))) && (decide ((x18.toNat : Int) ≤ 57)))))) with hc25 | hc25
        · refine V_ge rfl rfl rfl hc25 ?_
          refine V_y (Y_move rfl) rfl rfl rfl ?_
          refine V_ge rfl rfl rfl hc25 ?_
          refine V_y (Y_neq rfl rfl) rfl rfl rfl ?_
          refine V_y (Y_pick_te rfl hc25 rfl) rfl rfl rfl ?_
          exact V_end fun a ha => ⟨(), ha.sub ⟨rfl, rfl, rfl, (by rw [hc25]; rfl), trivial⟩, rfl⟩
        · refine V_gn rfl rfl rfl hc25 rfl rfl rfl ?_
          refine V_gn rfl rfl rfl hc25 rfl rfl rfl ?_
          refine V_y (Y_pick_fe rfl hc25 rfl) rfl rfl rfl ?_
          exact V_end fun a ha => ⟨(), ha.sub ⟨rfl, rfl, rfl, (by rw [hc25]; rfl), trivial⟩, rfl⟩
      simp only [List.take, List.drop]
      rintro _ _ rfl
      refine V_to (fun _ _ => rfl) ?_
      refine C_cond rfl (fun hc27 => ?_) (fun hc27 => ?_)
      · rw [if_pos hc27] at h11
        refine C_seq ?_
        refine C_region ?_
        refine V_y (Y_assign rfl) rfl rfl rfl ?_
        refine V_to (fun _ _ => rfl) ?_
        obtain rfl := Option.some.inj h11
        obtain rfl := (h12 : Lp.rt _ = _)
        rw [Lp.andThen_rt] at hm
        obtain rfl := Option.some.inj hm
        refine C_ret ?_
        try simp only [↓inBlock_ret, ↓then_ret]
        exact retQ rfl (Res.one Tryd.results16 rfl) ⟨rfl, rfl⟩
      · rw [if_neg (nt hc27)] at h11
        refine C_skip_to (fun _ _ => rfl) ?_
        refine C_region ?_
        refine V_y (Y_addI rfl rfl) rfl rfl rfl ?_
        refine V_y (Y_move rfl) rfl rfl rfl ?_
        obtain rfl := Option.some.inj h11
        refine V_end (fun a ha28 => ?_)
        exact ⟨w64 (s8 + 1), h12, ⟨(), ha28.sub ⟨rfl, rfl, rfl, trivial⟩, rfl⟩⟩
    · rw [if_neg (nt hc17)] at h11
      obtain rfl := Option.some.inj h11
      refine C_exit (fun a ha29 => ?_)
      exact ⟨s8, ha29.sub ⟨rfl, trivial⟩, ⟨h12.symm, rfl⟩⟩
  rintro s2 _ ⟨rfl, rfl⟩ a ha7
  rw [Lp.andThen_fin] at hm
  refine C_at (n := ⟨41, [], none⟩) (fun _ _ => rfl) ?_ ha7
  refine C_seq ?_
  refine C_region ?_
  refine V_y (Y_move rfl) rfl rfl rfl ?_
  refine V_y (Y_sneq rfl rfl) rfl rfl rfl ?_
  refine V_y (Y_move rfl) rfl rfl rfl ?_
  refine V_cut 4 (fun _ : Unit => [(40, .bool ((!(strEq s (⟨#[]⟩ : ByteArray))) && (decide ((s.size : Int) ≤ 20))))]) (fun _ w' => w = w') ?_ ?_
  · simp only [List.take, List.drop]
    rcases Bool.eq_false_or_eq_true (!(strEq s (⟨#[]⟩ : ByteArray))) with hc31 | hc31
    · refine V_ge rfl rfl rfl hc31 ?_
      refine V_y (Y_move rfl) rfl rfl rfl ?_
      refine V_ge rfl rfl rfl hc31 ?_
      refine V_y (Y_lenStr rfl Tryd.underlying9 rfl) rfl rfl rfl ?_
      refine V_ge rfl rfl rfl hc31 ?_
      refine V_y (Y_leq rfl rfl) rfl rfl rfl ?_
      refine V_y (Y_pick_te rfl hc31 rfl) rfl rfl rfl ?_
      exact V_end fun a ha => ⟨(), ha.sub ⟨(by rw [hc31]; rfl), trivial⟩, rfl⟩
    · refine V_gn rfl rfl rfl hc31 rfl rfl rfl ?_
      refine V_gn rfl rfl rfl hc31 rfl rfl rfl ?_
      refine V_gn rfl rfl rfl hc31 rfl rfl rfl ?_
      refine V_y (Y_pick_fe rfl hc31 rfl) rfl rfl rfl ?_
      exact V_end fun a ha => ⟨(), ha.sub ⟨(by rw [hc31]; rfl), trivial⟩, rfl⟩
  simp only [List.take, List.drop]
  rintro _ _ rfl
  refine V_y (Y_assign rfl) rfl rfl rfl ?_
  refine V_to (fun _ _ => rfl) ?_
  obtain rfl := Option.some.inj hm
  refine C_ret ?_
  try simp only [↓inBlock_ret, ↓then_ret]
  exact retQ rfl (Res.one Tryd.results16 rfl) ⟨rfl, rfl⟩

set_option maxRecDepth 4000 in
set_option maxHeartbeats 4000000 in
theorem level_checkTest_c (w : World) {A : Nat → Prop} (hA : ∀ b, w.heap.size ≤ b → A b) (t : level_Test) (before : Int) {r : Int} (hm : level_checkTest t before = some r) : Ret Tryd.prog 23 #[.agg #[.int .i64 t.field, .int .i64 t.value.kind, .int .i64 t.value.int, .string t.value.text], .int .i64 before] w fun v w' => v = .int .i64 r ∧ Kp Dw w w' := by
  unfold level_checkTest at hm
  refine enter Tryd.func23 rfl Tryd.ntmps23 rfl ?_
  have hA0 := hA
  have hB := Nat.le_refl w.heap.size
  have hK : Tr Dw w.heap.size A w A w := Tr.refl (Dw := Dw) hA
  have hH : Hp w.heap.size A w [] := Hp.nil
  refine C_seq ?_
  refine C_region ?_
  refine V_box rfl rfl ?_
  intro b1 w2 h3
  have hk5 := h3.kp (Dw := Dw)
  have h4 : El (α := level_Test) A w2 b1 0 t := h3.el hA ⟨[.int .i64 t.field], _, rfl, rfl, ⟨[.int .i64 t.value.kind], _, rfl, rfl, ⟨[.int .i64 t.value.int], _, rfl, rfl, rfl⟩⟩⟩
  have ht6 := Kp.tr (Dw := Dw) hk5 hA hB
  replace hH := Hp.kp (Dw := Dw) hH hk5
  replace hK := Tr.trans (Dw := Dw) hK ht6
  replace hB := Nat.le_trans hB ht6.ex.size
  replace hA := ht6.new
  refine V_y (Y_assign rfl) rfl rfl rfl ?_
  refine V_to (fun _ _ => rfl) ?_
  refine C_seq ?_
  refine C_seq ?_
  refine C_region ?_
  have h7 := El_level_Test_0 h4
  refine V_y (Y_fieldAddr Tryd.underlying48 rfl Tryd.sizeOf3 (by decide) rfl) rfl rfl rfl ?_
  refine V_y (Y_load (El.int h7) Tryd.isAgg3 rfl) rfl rfl rfl ?_
  refine V_call Tryd.call11 rfl rfl rfl rfl (level_within_c w2 t.field (-1) 19) ?_
  rintro _ _ ⟨rfl, rfl⟩
  refine V_y (Y_not rfl) rfl rfl rfl ?_
  refine V_to (fun _ _ => rfl) ?_
  refine C_cond rfl (fun hc8 => ?_) (fun hc8 => ?_)
  · rw [if_pos hc8] at hm
    refine C_seq ?_
    refine C_region ?_
    refine V_y (Y_assign rfl) rfl rfl rfl ?_
    refine V_to (fun _ _ => rfl) ?_
    obtain rfl := Option.some.inj hm
    refine C_ret ?_
    try simp only [↓inBlock_ret, ↓then_ret]
    exact retQ rfl (Res.one Tryd.results23 rfl) ⟨rfl, hK.kp⟩
  · rw [if_neg (nt hc8)] at hm
    refine C_skip_to (fun _ _ => rfl) ?_
    refine C_seq ?_
    refine C_seq ?_
    refine C_region ?_
    have h9 := El_level_Test_0 h4
    refine V_y (Y_fieldAddr Tryd.underlying48 rfl Tryd.sizeOf3 (by decide) rfl) rfl rfl rfl ?_
    refine V_y (Y_load (El.int h9) Tryd.isAgg3 rfl) rfl rfl rfl ?_
    refine V_y (Y_move rfl) rfl rfl rfl ?_
    refine V_y (Y_leq rfl rfl) rfl rfl rfl ?_
    refine V_to (fun _ _ => rfl) ?_
    refine C_cond rfl (fun hc10 => ?_) (fun hc10 => ?_)
    · rw [if_pos hc10] at hm
      refine C_seq ?_
      refine C_region ?_
      refine V_y (Y_assign rfl) rfl rfl rfl ?_
      refine V_to (fun _ _ => rfl) ?_
      obtain rfl := Option.some.inj hm
      refine C_ret ?_
      try simp only [↓inBlock_ret, ↓then_ret]
      exact retQ rfl (Res.one Tryd.results23 rfl) ⟨rfl, hK.kp⟩
    · rw [if_neg (nt hc10)] at hm
      refine C_skip_to (fun _ _ => rfl) ?_
      refine C_seq ?_
      refine C_region ?_
      have h11 := El_level_Test_1 h4
      refine V_y (Y_fieldAddr Tryd.underlying48 rfl Tryd.sizeOf46 (by decide) rfl) rfl rfl rfl ?_
      obtain ⟨h12, _⟩ := El_api_Value h11
      refine V_y (Y_loadA h12 Tryd.isAgg46 Tryd.sizeOf46 rfl) rfl rfl rfl ?_
      refine V_alloc Tryd.zeroValue46 rfl ?_
      intro b13 w14 h15
      refine V_storeNew h15 Tryd.sizeOf46 rfl rfl rfl rfl (by exact (List.forall_mem_cons.2 ⟨rfl, (List.forall_mem_cons.2 ⟨rfl, (List.forall_mem_cons.2 ⟨rfl, (fun _ h => nomatch h)⟩)⟩)⟩)) ?_
      intro w17 h18
      have hk20 := h18.kp (Dw := Dw)
      have h19 : El (α := api_Value) A w17 b13 0 t.value := h18.el hA ⟨[.int .i64 t.value.kind], _, rfl, rfl, ⟨[.int .i64 t.value.int], _, rfl, rfl, rfl⟩⟩
      have ht21 := Kp.tr (Dw := Dw) hk20 hA hB
      replace hH := Hp.kp (Dw := Dw) hH hk20
      replace h4 := El.tr (Dw := Dw) h4 ht21
      replace h11 := El.tr (Dw := Dw) h11 ht21
      replace hK := Tr.trans (Dw := Dw) hK ht21
      replace hB := Nat.le_trans hB ht21.ex.size
      replace hA := ht21.new
      refine V_to (fun _ _ => rfl) ?_
      refine C_seq ?_
      refine C_seq ?_
      refine C_region ?_
      have h22 := El_api_Value_0 h19
      refine V_y (Y_fieldAddr Tryd.underlying46 rfl Tryd.sizeOf3 (by decide) rfl) rfl rfl rfl ?_
      refine V_y (Y_load (El.int h22) Tryd.isAgg3 rfl) rfl rfl rfl ?_
      refine V_call Tryd.call11 rfl rfl rfl rfl (level_within_c w17 t.value.kind 0 6) ?_
      rintro _ _ ⟨rfl, rfl⟩
      refine V_y (Y_not rfl) rfl rfl rfl ?_
      refine V_y (Y_move rfl) rfl rfl rfl ?_
      refine V_cut 9 (fun _ : Unit => [(5, .pointer (some ⟨b13, 0, none⟩)), (31, .bool ((!(level_within t.value.kind 0 6)) || ((t.field == (-1)) && (t.value.kind != 2))))]) (fun _ w' => w17 = w') ?_ ?_
      · simp only [List.take, List.drop]
        rcases Bool.eq_false_or_eq_true (!(level_within t.value.kind 0 6)) with hc23 | hc23
        · refine V_gn rfl rfl rfl hc23 rfl rfl rfl ?_
          refine V_gn rfl rfl rfl hc23 rfl rfl rfl ?_
          refine V_gn rfl rfl rfl hc23 rfl rfl rfl ?_
          refine V_gn rfl rfl rfl hc23 rfl rfl rfl ?_
          refine V_gu rfl rfl rfl rfl rfl ?_
          refine V_gu rfl rfl rfl rfl rfl ?_
          refine V_gu rfl rfl rfl rfl rfl ?_
          refine V_gn rfl rfl rfl hc23 rfl rfl rfl ?_
          refine V_y (Y_pick_te rfl hc23 rfl) rfl rfl rfl ?_
          exact V_end fun a ha => ⟨(), ha.sub ⟨rfl, (by rw [hc23]; rfl), trivial⟩, rfl⟩
        · refine V_ge rfl rfl rfl hc23 ?_
          have h25 := El_level_Test_0 h4
          refine V_y (Y_fieldAddr Tryd.underlying48 rfl Tryd.sizeOf3 (by decide) rfl) rfl rfl rfl ?_
          refine V_ge rfl rfl rfl hc23 ?_
          refine V_y (Y_load (El.int h25) Tryd.isAgg3 rfl) rfl rfl rfl ?_
          refine V_ge rfl rfl rfl hc23 ?_
          refine V_y (Y_eql rfl rfl) rfl rfl rfl ?_
          refine V_ge rfl rfl rfl hc23 ?_
          refine V_y (Y_move rfl) rfl rfl rfl ?_
          refine V_cut 4 (fun _ : Unit => [(5, .pointer (some ⟨b13, 0, none⟩)), (22, .bool (!(level_within t.value.kind 0 6))), (30, .bool ((t.field == (-1)) && (t.value.kind != 2)))]) (fun _ w' => w17 = w') ?_ ?_
          · simp only [List.take, List.drop]
            rcases Bool.eq_false_or_eq_true (t.field == (-1)) with hc26 | hc26
            · refine V_ge rfl rfl rfl hc26 ?_
              have h28 := El_api_Value_0 h19
              refine V_y (Y_fieldAddr Tryd.underlying46 rfl Tryd.sizeOf3 (by decide) rfl) rfl rfl rfl ?_
              refine V_ge rfl rfl rfl hc26 ?_
              refine V_y (Y_load (El.int h28) Tryd.isAgg3 rfl) rfl rfl rfl ?_
              refine V_ge rfl rfl rfl hc26 ?_
              refine V_y (Y_neq rfl rfl) rfl rfl rfl ?_
              refine V_ge rfl rfl rfl hc23 ?_
              refine V_y (Y_pick_te rfl hc26 rfl) rfl rfl rfl ?_
              exact V_end fun a ha => ⟨(), ha.sub ⟨rfl, rfl, (by rw [hc26]; rfl), trivial⟩, rfl⟩
            · refine V_gn rfl rfl rfl hc26 rfl rfl rfl ?_
              refine V_gn rfl rfl rfl hc26 rfl rfl rfl ?_
              refine V_gn rfl rfl rfl hc26 rfl rfl rfl ?_
              refine V_ge rfl rfl rfl hc23 ?_
              refine V_y (Y_pick_fe rfl hc26 rfl) rfl rfl rfl ?_
              exact V_end fun a ha => ⟨(), ha.sub ⟨rfl, rfl, (by rw [hc26]; rfl), trivial⟩, rfl⟩
          simp only [List.take, List.drop]
          rintro _ _ rfl
          refine V_y (Y_pick_fe rfl hc23 rfl) rfl rfl rfl ?_
          exact V_end fun a ha => ⟨(), ha.sub ⟨rfl, (by rw [hc23]; rfl), trivial⟩, rfl⟩
      simp only [List.take, List.drop]
      rintro _ _ rfl
      refine V_to (fun _ _ => rfl) ?_
      refine C_cond rfl (fun hc29 => ?_) (fun hc29 => ?_)
      · rw [if_pos hc29] at hm
        refine C_seq ?_
        refine C_region ?_
        refine V_y (Y_assign rfl) rfl rfl rfl ?_
        refine V_to (fun _ _ => rfl) ?_
        obtain rfl := Option.some.inj hm
        refine C_ret ?_
        try simp only [↓inBlock_ret, ↓then_ret]
        exact retQ rfl (Res.one Tryd.results23 rfl) ⟨rfl, hK.kp⟩
      · rw [if_neg (nt hc29)] at hm
        refine C_skip_to (fun _ _ => rfl) ?_
        refine C_seq ?_
        refine C_seq ?_
        refine C_region ?_
        have h30 := El_api_Value_1 h19
        refine V_y (Y_fieldAddr Tryd.underlying46 rfl Tryd.sizeOf3 (by decide) rfl) rfl rfl rfl ?_
        refine V_y (Y_load (El.int h30) Tryd.isAgg3 rfl) rfl rfl rfl ?_
        refine V_y (Y_neq rfl rfl) rfl rfl rfl ?_
        refine V_y (Y_move rfl) rfl rfl rfl ?_
        refine V_cut 9 (fun _ : Unit => [(5, .pointer (some ⟨b13, 0, none⟩)), (44, .bool ((t.value.int != 0) && ((t.value.kind == 0) || (t.value.kind == 3))))]) (fun _ w' => w17 = w') ?_ ?_
        · simp only [List.take, List.drop]
          rcases Bool.eq_false_or_eq_true (t.value.int != 0) with hc31 | hc31
          · refine V_ge rfl rfl rfl hc31 ?_
            have h33 := El_api_Value_0 h19
            refine V_y (Y_fieldAddr Tryd.underlying46 rfl Tryd.sizeOf3 (by decide) rfl) rfl rfl rfl ?_
            refine V_ge rfl rfl rfl hc31 ?_
            refine V_y (Y_load (El.int h33) Tryd.isAgg3 rfl) rfl rfl rfl ?_
            refine V_ge rfl rfl rfl hc31 ?_
            refine V_y (Y_eql rfl rfl) rfl rfl rfl ?_
            refine V_ge rfl rfl rfl hc31 ?_
            refine V_y (Y_move rfl) rfl rfl rfl ?_
            refine V_cut 4 (fun _ : Unit => [(5, .pointer (some ⟨b13, 0, none⟩)), (35, .bool (t.value.int != 0)), (43, .bool ((t.value.kind == 0) || (t.value.kind == 3)))]) (fun _ w' => w17 = w') ?_ ?_
            · simp only [List.take, List.drop]
              rcases Bool.eq_false_or_eq_true (t.value.kind == 0) with hc34 | hc34
              · refine V_gn rfl rfl rfl hc34 rfl rfl rfl ?_
                refine V_gn rfl rfl rfl hc34 rfl rfl rfl ?_
                refine V_gn rfl rfl rfl hc34 rfl rfl rfl ?_
                refine V_ge rfl rfl rfl hc31 ?_
                refine V_y (Y_pick_te rfl hc34 rfl) rfl rfl rfl ?_
                exact V_end fun a ha => ⟨(), ha.sub ⟨rfl, rfl, (by rw [hc34]; rfl), trivial⟩, rfl⟩
              · refine V_ge rfl rfl rfl hc34 ?_
                have h36 := El_api_Value_0 h19
                refine V_y (Y_fieldAddr Tryd.underlying46 rfl Tryd.sizeOf3 (by decide) rfl) rfl rfl rfl ?_
                refine V_ge rfl rfl rfl hc34 ?_
                refine V_y (Y_load (El.int h36) Tryd.isAgg3 rfl) rfl rfl rfl ?_
                refine V_ge rfl rfl rfl hc34 ?_
                refine V_y (Y_eql rfl rfl) rfl rfl rfl ?_
                refine V_ge rfl rfl rfl hc31 ?_
                refine V_y (Y_pick_fe rfl hc34 rfl) rfl rfl rfl ?_
                exact V_end fun a ha => ⟨(), ha.sub ⟨rfl, rfl, (by rw [hc34]; rfl), trivial⟩, rfl⟩
            simp only [List.take, List.drop]
            rintro _ _ rfl
            refine V_y (Y_pick_te rfl hc31 rfl) rfl rfl rfl ?_
            exact V_end fun a ha => ⟨(), ha.sub ⟨rfl, (by rw [hc31]; rfl), trivial⟩, rfl⟩
          · refine V_gn rfl rfl rfl hc31 rfl rfl rfl ?_
            refine V_gn rfl rfl rfl hc31 rfl rfl rfl ?_
            refine V_gn rfl rfl rfl hc31 rfl rfl rfl ?_
            refine V_gn rfl rfl rfl hc31 rfl rfl rfl ?_
            refine V_gu rfl rfl rfl rfl rfl ?_
            refine V_gu rfl rfl rfl rfl rfl ?_
            refine V_gu rfl rfl rfl rfl rfl ?_
            refine V_gn rfl rfl rfl hc31 rfl rfl rfl ?_
            refine V_y (Y_pick_fe rfl hc31 rfl) rfl rfl rfl ?_
            exact V_end fun a ha => ⟨(), ha.sub ⟨rfl, (by rw [hc31]; rfl), trivial⟩, rfl⟩
        simp only [List.take, List.drop]
        rintro _ _ rfl
        refine V_y (Y_move rfl) rfl rfl rfl ?_
        refine V_cut 9 (fun _ : Unit => [(5, .pointer (some ⟨b13, 0, none⟩)), (54, .bool (((t.value.int != 0) && ((t.value.kind == 0) || (t.value.kind == 3))) || ((!(strEq t.value.text (⟨#[]⟩ : ByteArray))) && (t.value.kind != 3))))]) (fun _ w' => w17 = w') ?_ ?_
        · simp only [List.take, List.drop]
          rcases Bool.eq_false_or_eq_true (((t.value.int != 0) && ((t.value.kind == 0) || (t.value.kind == 3)))) with hc37 | hc37
          · refine V_gn rfl rfl rfl hc37 rfl rfl rfl ?_
            refine V_gn rfl rfl rfl hc37 rfl rfl rfl ?_
            refine V_gn rfl rfl rfl hc37 rfl rfl rfl ?_
            refine V_gn rfl rfl rfl hc37 rfl rfl rfl ?_
            refine V_gu rfl rfl rfl rfl rfl ?_
            refine V_gu rfl rfl rfl rfl rfl ?_
            refine V_gu rfl rfl rfl rfl rfl ?_
            refine V_gn rfl rfl rfl hc37 rfl rfl rfl ?_
            refine V_y (Y_pick_te rfl hc37 rfl) rfl rfl rfl ?_
            exact V_end fun a ha => ⟨(), ha.sub ⟨rfl, (by rw [hc37]; rfl), trivial⟩, rfl⟩
          · refine V_ge rfl rfl rfl hc37 ?_
            have h39 := El_api_Value_2 h19
            refine V_y (Y_fieldAddr Tryd.underlying46 rfl Tryd.sizeOf9 (by decide) rfl) rfl rfl rfl ?_
            refine V_ge rfl rfl rfl hc37 ?_
            refine V_y (Y_load (El.str h39) Tryd.isAgg9 rfl) rfl rfl rfl ?_
            refine V_ge rfl rfl rfl hc37 ?_
            refine V_y (Y_sneq rfl rfl) rfl rfl rfl ?_
            refine V_ge rfl rfl rfl hc37 ?_
            refine V_y (Y_move rfl) rfl rfl rfl ?_
            refine V_cut 4 (fun _ : Unit => [(5, .pointer (some ⟨b13, 0, none⟩)), (45, .bool ((t.value.int != 0) && ((t.value.kind == 0) || (t.value.kind == 3)))), (53, .bool ((!(strEq t.value.text (⟨#[]⟩ : ByteArray))) && (t.value.kind != 3)))]) (fun _ w' => w17 = w') ?_ ?_
            · simp only [List.take, List.drop]
              rcases Bool.eq_false_or_eq_true (!(strEq t.value.text (⟨#[]⟩ : ByteArray))) with hc40 | hc40
              · refine V_ge rfl rfl rfl hc40 ?_
                have h42 := El_api_Value_0 h19
                refine V_y (Y_fieldAddr Tryd.underlying46 rfl Tryd.sizeOf3 (by decide) rfl) rfl rfl rfl ?_
                refine V_ge rfl rfl rfl hc40 ?_
                refine V_y (Y_load (El.int h42) Tryd.isAgg3 rfl) rfl rfl rfl ?_
                refine V_ge rfl rfl rfl hc40 ?_
                refine V_y (Y_neq rfl rfl) rfl rfl rfl ?_
                refine V_ge rfl rfl rfl hc37 ?_
                refine V_y (Y_pick_te rfl hc40 rfl) rfl rfl rfl ?_
                exact V_end fun a ha => ⟨(), ha.sub ⟨rfl, rfl, (by rw [hc40]; rfl), trivial⟩, rfl⟩
              · refine V_gn rfl rfl rfl hc40 rfl rfl rfl ?_
                refine V_gn rfl rfl rfl hc40 rfl rfl rfl ?_
                refine V_gn rfl rfl rfl hc40 rfl rfl rfl ?_
                refine V_ge rfl rfl rfl hc37 ?_
                refine V_y (Y_pick_fe rfl hc40 rfl) rfl rfl rfl ?_
                exact V_end fun a ha => ⟨(), ha.sub ⟨rfl, rfl, (by rw [hc40]; rfl), trivial⟩, rfl⟩
            simp only [List.take, List.drop]
            rintro _ _ rfl
            refine V_y (Y_pick_fe rfl hc37 rfl) rfl rfl rfl ?_
            exact V_end fun a ha => ⟨(), ha.sub ⟨rfl, (by rw [hc37]; rfl), trivial⟩, rfl⟩
        simp only [List.take, List.drop]
        rintro _ _ rfl
        refine V_to (fun _ _ => rfl) ?_
        refine C_cond rfl (fun hc43 => ?_) (fun hc43 => ?_)
        · rw [if_pos hc43] at hm
          refine C_seq ?_
          refine C_region ?_
          refine V_y (Y_assign rfl) rfl rfl rfl ?_
          refine V_to (fun _ _ => rfl) ?_
          obtain rfl := Option.some.inj hm
          refine C_ret ?_
          try simp only [↓inBlock_ret, ↓then_ret]
          exact retQ rfl (Res.one Tryd.results23 rfl) ⟨rfl, hK.kp⟩
        · rw [if_neg (nt hc43)] at hm
          refine C_skip_to (fun _ _ => rfl) ?_
          refine C_seq ?_
          refine C_region ?_
          refine V_y (Y_assign rfl) rfl rfl rfl ?_
          refine V_to (fun _ _ => rfl) ?_
          refine C_seq ?_
          refine C_seq ?_
          refine C_region ?_
          have h44 := El_api_Value_0 h19
          refine V_y (Y_fieldAddr Tryd.underlying46 rfl Tryd.sizeOf3 (by decide) rfl) rfl rfl rfl ?_
          refine V_y (Y_load (El.int h44) Tryd.isAgg3 rfl) rfl rfl rfl ?_
          refine V_to (fun _ _ => rfl) ?_
          obtain ⟨s46, ho45, hm⟩ := Option.bind_eq_some_iff.1 hm
          refine C_cutG (ι := Unit) (fun (_ : Unit) => [(5, .pointer (some ⟨b13, 0, none⟩)), (6, .bool s46)]) (fun (_ : Unit) => fun w' => w17 = w') ?_ ?_
          · refine C_block ?_
            refine C_seq ?_
            refine C_region ?_
            refine V_y (Y_eql rfl rfl) rfl rfl rfl ?_
            refine V_y (Y_assign rfl) rfl rfl rfl ?_
            refine V_to (fun _ _ => rfl) ?_
            obtain ⟨s52, ho51, ho45⟩ := Option.bind_eq_some_iff.1 ho45
            refine C_cutG (ι := Unit) (fun (_ : Unit) => [(5, .pointer (some ⟨b13, 0, none⟩)), (6, .bool s52)]) (fun (_ : Unit) => fun w' => w17 = w') ?_ ?_
            · refine C_cond rfl (fun hc57 => ?_) (fun hc57 => ?_)
              · rw [if_pos hc57] at ho51
                refine C_region ?_
                have h58 := El_api_Value_1 h19
                refine V_y (Y_fieldAddr Tryd.underlying46 rfl Tryd.sizeOf3 (by decide) rfl) rfl rfl rfl ?_
                refine V_y (Y_load (El.int h58) Tryd.isAgg3 rfl) rfl rfl rfl ?_
                refine V_call Tryd.call11 rfl rfl rfl rfl (level_within_c w17 t.value.int 0 1) ?_
                rintro _ _ ⟨rfl, rfl⟩
                refine V_y (Y_assign rfl) rfl rfl rfl ?_
                obtain rfl := Option.some.inj ho51
                refine V_end (fun a ha59 => ?_)
                exact ⟨(), ha59.sub ⟨rfl, rfl, trivial⟩, rfl⟩
              · rw [if_neg (nt hc57)] at ho51
                refine C_seq ?_
                refine C_region ?_
                refine V_y (Y_eql rfl rfl) rfl rfl rfl ?_
                refine V_y (Y_assign rfl) rfl rfl rfl ?_
                refine V_to (fun _ _ => rfl) ?_
                obtain ⟨s61, ho60, ho51⟩ := Option.bind_eq_some_iff.1 ho51
                refine C_cutG (ι := Unit) (fun (_ : Unit) => [(5, .pointer (some ⟨b13, 0, none⟩)), (6, .bool s61)]) (fun (_ : Unit) => fun w' => w17 = w') ?_ ?_
                · refine C_cond rfl (fun hc66 => ?_) (fun hc66 => ?_)
                  · rw [if_pos hc66] at ho60
                    refine C_region ?_
                    have h67 := El_api_Value_1 h19
                    refine V_y (Y_fieldAddr Tryd.underlying46 rfl Tryd.sizeOf3 (by decide) rfl) rfl rfl rfl ?_
                    refine V_y (Y_load (El.int h67) Tryd.isAgg3 rfl) rfl rfl rfl ?_
                    refine V_call Tryd.call11 rfl rfl rfl rfl (level_within_c w17 t.value.int 0 19) ?_
                    rintro _ _ ⟨rfl, rfl⟩
                    refine V_y (Y_assign rfl) rfl rfl rfl ?_
                    obtain rfl := Option.some.inj ho60
                    refine V_end (fun a ha68 => ?_)
                    exact ⟨(), ha68.sub ⟨rfl, rfl, trivial⟩, rfl⟩
                  · rw [if_neg (nt hc66)] at ho60
                    refine C_seq ?_
                    refine C_region ?_
                    refine V_y (Y_eql rfl rfl) rfl rfl rfl ?_
                    refine V_y (Y_assign rfl) rfl rfl rfl ?_
                    refine V_to (fun _ _ => rfl) ?_
                    obtain ⟨s70, ho69, ho60⟩ := Option.bind_eq_some_iff.1 ho60
                    refine C_cutG (ι := Unit) (fun (_ : Unit) => [(5, .pointer (some ⟨b13, 0, none⟩)), (6, .bool s70)]) (fun (_ : Unit) => fun w' => w17 = w') ?_ ?_
                    · refine C_cond rfl (fun hc75 => ?_) (fun hc75 => ?_)
                      · rw [if_pos hc75] at ho69
                        refine C_region ?_
                        have h76 := El_api_Value_1 h19
                        refine V_y (Y_fieldAddr Tryd.underlying46 rfl Tryd.sizeOf3 (by decide) rfl) rfl rfl rfl ?_
                        refine V_y (Y_load (El.int h76) Tryd.isAgg3 rfl) rfl rfl rfl ?_
                        refine V_call Tryd.call11 rfl rfl rfl rfl (level_within_c w17 t.value.int 0 3000000) ?_
                        rintro _ _ ⟨rfl, rfl⟩
                        refine V_y (Y_assign rfl) rfl rfl rfl ?_
                        obtain rfl := Option.some.inj ho69
                        refine V_end (fun a ha77 => ?_)
                        exact ⟨(), ha77.sub ⟨rfl, rfl, trivial⟩, rfl⟩
                      · rw [if_neg (nt hc75)] at ho69
                        refine C_seq ?_
                        refine C_region ?_
                        refine V_y (Y_eql rfl rfl) rfl rfl rfl ?_
                        refine V_y (Y_assign rfl) rfl rfl rfl ?_
                        refine V_to (fun _ _ => rfl) ?_
                        obtain ⟨s79, ho78, ho69⟩ := Option.bind_eq_some_iff.1 ho69
                        refine C_cutG (ι := Unit) (fun (_ : Unit) => [(5, .pointer (some ⟨b13, 0, none⟩)), (6, .bool s79)]) (fun (_ : Unit) => fun w' => w17 = w') ?_ ?_
                        · refine C_cond rfl (fun hc84 => ?_) (fun hc84 => ?_)
                          · rw [if_pos hc84] at ho78
                            refine C_region ?_
                            have h85 := El_api_Value_1 h19
                            refine V_y (Y_fieldAddr Tryd.underlying46 rfl Tryd.sizeOf3 (by decide) rfl) rfl rfl rfl ?_
                            refine V_y (Y_load (El.int h85) Tryd.isAgg3 rfl) rfl rfl rfl ?_
                            refine V_call Tryd.call11 rfl rfl rfl rfl (level_within_c w17 t.value.int 1 40) ?_
                            rintro _ _ ⟨rfl, rfl⟩
                            refine V_y (Y_assign rfl) rfl rfl rfl ?_
                            obtain rfl := Option.some.inj ho78
                            refine V_end (fun a ha86 => ?_)
                            exact ⟨(), ha86.sub ⟨rfl, rfl, trivial⟩, rfl⟩
                          · rw [if_neg (nt hc84)] at ho78
                            obtain rfl := Option.some.inj ho78
                            refine C_skip (fun a ha87 => ?_)
                            exact ⟨(), ha87.sub ⟨rfl, rfl, trivial⟩, rfl⟩
                        rintro _ _ rfl a ha83
                        obtain rfl := Option.some.inj ho69
                        exact ⟨(), ha83.sub ⟨rfl, rfl, trivial⟩, rfl⟩
                    rintro _ _ rfl a ha74
                    obtain rfl := Option.some.inj ho60
                    exact ⟨(), ha74.sub ⟨rfl, rfl, trivial⟩, rfl⟩
                rintro _ _ rfl a ha65
                obtain rfl := Option.some.inj ho51
                exact ⟨(), ha65.sub ⟨rfl, rfl, trivial⟩, rfl⟩
            rintro _ _ rfl a ha56
            obtain rfl := Option.some.inj ho45
            exact ⟨(), ha56.sub ⟨rfl, rfl, trivial⟩, rfl⟩
          rintro _ _ rfl a ha50
          refine C_at (n := ⟨102, [], none⟩) (fun _ _ => rfl) ?_ ha50
          refine C_seq ?_
          refine C_seq ?_
          refine C_region ?_
          refine V_y (Y_move rfl) rfl rfl rfl ?_
          refine V_y (Y_not rfl) rfl rfl rfl ?_
          refine V_to (fun _ _ => rfl) ?_
          refine C_cond rfl (fun hc92 => ?_) (fun hc92 => ?_)
          · rw [if_pos hc92] at hm
            refine C_seq ?_
            refine C_region ?_
            refine V_y (Y_assign rfl) rfl rfl rfl ?_
            refine V_to (fun _ _ => rfl) ?_
            obtain rfl := Option.some.inj hm
            refine C_ret ?_
            try simp only [↓inBlock_ret, ↓then_ret]
            exact retQ rfl (Res.one Tryd.results23 rfl) ⟨rfl, hK.kp⟩
          · rw [if_neg (nt hc92)] at hm
            refine C_skip_to (fun _ _ => rfl) ?_
            refine C_seq ?_
            refine C_seq ?_
            refine C_region ?_
            have h93 := El_api_Value_2 h19
            refine V_y (Y_fieldAddr Tryd.underlying46 rfl Tryd.sizeOf9 (by decide) rfl) rfl rfl rfl ?_
            refine V_y (Y_load (El.str h93) Tryd.isAgg9 rfl) rfl rfl rfl ?_
            refine V_y (Y_lenStr rfl Tryd.underlying9 rfl) rfl rfl rfl ?_
            refine V_y (Y_gtr rfl rfl) rfl rfl rfl ?_
            refine V_to (fun _ _ => rfl) ?_
            refine C_cond rfl (fun hc94 => ?_) (fun hc94 => ?_)
            · rw [if_pos hc94] at hm
              refine C_seq ?_
              refine C_region ?_
              refine V_y (Y_assign rfl) rfl rfl rfl ?_
              refine V_to (fun _ _ => rfl) ?_
              obtain rfl := Option.some.inj hm
              refine C_ret ?_
              try simp only [↓inBlock_ret, ↓then_ret]
              exact retQ rfl (Res.one Tryd.results23 rfl) ⟨rfl, hK.kp⟩
            · rw [if_neg (nt hc94)] at hm
              refine C_skip_to (fun _ _ => rfl) ?_
              refine C_seq ?_
              refine C_seq ?_
              refine C_region ?_
              have h95 := El_api_Value_2 h19
              refine V_y (Y_fieldAddr Tryd.underlying46 rfl Tryd.sizeOf9 (by decide) rfl) rfl rfl rfl ?_
              refine V_y (Y_load (El.str h95) Tryd.isAgg9 rfl) rfl rfl rfl ?_
              refine V_y (Y_lenStr rfl Tryd.underlying9 rfl) rfl rfl rfl ?_
              refine V_y (Y_move rfl) rfl rfl rfl ?_
              refine V_to (fun _ _ => rfl) ?_
              obtain ⟨o96, ho96, hm⟩ := Option.bind_eq_some_iff.1 hm
              refine C_cutG (ι := Int) (fun (s97 : Int) => []) (fun (s97 : Int) => fun w' => o96 = .fin s97 ∧ w17 = w') ?_ ?_
              · refine C_block ?_
                refine C_while ho96 (fun s103 a w' => ∃ i : Unit, Has ⟨102, [], none⟩ a ([(5, .pointer (some ⟨b13, 0, none⟩)), (85, .int .i64 (t.value.text.size : Int)), (86, .int .i64 s103)]) ∧ w17 = w') (fun a ha => ⟨(), ha.sub ⟨rfl, rfl, rfl, trivial⟩, rfl⟩) ?_
                rintro K s103 a _ ⟨_, ha121, rfl⟩ K111
                refine C_of ?_ ha121
                obtain ⟨x105, h106, h107⟩ := K111
                refine C_seq ?_
                refine C_region ?_
                refine V_y (Y_lss rfl rfl) rfl rfl rfl ?_
                refine V_to (fun _ _ => rfl) ?_
                refine C_seq ?_
                refine C_cond rfl (fun hc112 => ?_) (fun hc112 => ?_)
                · rw [if_pos hc112] at h106
                  refine C_skip_to (fun _ _ => rfl) ?_
                  refine C_seq ?_
                  refine C_block ?_
                  refine C_seq ?_
                  refine C_region ?_
                  refine V_y (Y_move rfl) rfl rfl rfl ?_
                  refine V_y (Y_assign rfl) rfl rfl rfl ?_
                  refine V_to (fun _ _ => rfl) ?_
                  refine C_seq ?_
                  refine C_region ?_
                  have h113 := El_api_Value_2 h19
                  refine V_y (Y_fieldAddr Tryd.underlying46 rfl Tryd.sizeOf9 (by decide) rfl) rfl rfl rfl ?_
                  refine V_y (Y_load (El.str h113) Tryd.isAgg9 rfl) rfl rfl rfl ?_
                  refine V_y (Y_move rfl) rfl rfl rfl ?_
                  obtain ⟨x114, hx114, h106⟩ := Option.bind_eq_some_iff.1 h106
                  refine V_y (Y_indexS hx114 Tryd.underlying9 rfl rfl) rfl rfl rfl ?_
                  refine V_y (Y_lss rfl rfl) rfl rfl rfl ?_
                  refine V_y (Y_move rfl) rfl rfl rfl ?_
                  obtain ⟨s116, hs116, h106⟩ := Option.bind_eq_some_iff.1 h106
                  refine V_cut 6 (fun _ : Unit => [(5, .pointer (some ⟨b13, 0, none⟩)), (85, .int .i64 (t.value.text.size : Int)), (86, .int .i64 s103), (100, .bool s116)]) (fun _ w' => w17 = w') ?_ ?_
                  · simp only [List.take, List.drop]
                    rcases Bool.eq_false_or_eq_true (decide ((x114.toNat : Int) < 32)) with hc115 | hc115
                    · rw [if_pos hc115] at hs116
                      refine V_gn rfl rfl rfl hc115 rfl rfl rfl ?_
                      refine V_gn rfl rfl rfl hc115 rfl rfl rfl ?_
                      refine V_gn rfl rfl rfl hc115 rfl rfl rfl ?_
                      refine V_gn rfl rfl rfl hc115 rfl rfl rfl ?_
                      refine V_gn rfl rfl rfl hc115 rfl rfl rfl ?_
                      refine V_y (Y_pick_te rfl hc115 rfl) rfl rfl rfl ?_
                      obtain rfl := Option.some.inj hs116
                      exact V_end fun a ha => ⟨(), ha.sub ⟨rfl, rfl, rfl, rfl, trivial⟩, rfl⟩
                    · rw [if_neg (nt hc115)] at hs116
                      refine V_ge rfl rfl rfl hc115 ?_
                      have h117 := El_api_Value_2 h19
                      refine V_y (Y_fieldAddr Tryd.underlying46 rfl Tryd.sizeOf9 (by decide) rfl) rfl rfl rfl ?_
                      refine V_ge rfl rfl rfl hc115 ?_
                      refine V_y (Y_load (El.str h117) Tryd.isAgg9 rfl) rfl rfl rfl ?_
                      refine V_ge rfl rfl rfl hc115 ?_
                      refine V_y (Y_move rfl) rfl rfl rfl ?_
                      refine V_ge rfl rfl rfl hc115 ?_
                      refine V_y (Y_indexS hx114 Tryd.underlying9 rfl rfl) rfl rfl rfl ?_
                      refine V_ge rfl rfl rfl hc115 ?_
                      refine V_y (Y_eql rfl rfl) rfl rfl rfl ?_
                      refine V_y (Y_pick_fe rfl hc115 rfl) rfl rfl rfl ?_
                      obtain rfl := Option.some.inj hs116
                      exact V_end fun a ha => ⟨(), ha.sub ⟨rfl, rfl, rfl, rfl, trivial⟩, rfl⟩
                  simp only [List.take, List.drop]
                  rintro _ _ rfl
                  refine V_to (fun _ _ => rfl) ?_
                  refine C_cond rfl (fun hc118 => ?_) (fun hc118 => ?_)
                  · rw [if_pos hc118] at h106
                    refine C_seq ?_
                    refine C_region ?_
                    refine V_y (Y_assign rfl) rfl rfl rfl ?_
                    refine V_to (fun _ _ => rfl) ?_
                    obtain rfl := Option.some.inj h106
                    obtain rfl := (h107 : Lp.rt _ = _)
                    rw [Lp.andThen_rt] at hm
                    obtain rfl := Option.some.inj hm
                    refine C_ret ?_
                    try simp only [↓inBlock_ret, ↓then_ret]
                    exact retQ rfl (Res.one Tryd.results23 rfl) ⟨rfl, hK.kp⟩
                  · rw [if_neg (nt hc118)] at h106
                    refine C_skip_to (fun _ _ => rfl) ?_
                    refine C_region ?_
                    refine V_y (Y_addI rfl rfl) rfl rfl rfl ?_
                    refine V_y (Y_move rfl) rfl rfl rfl ?_
                    obtain rfl := Option.some.inj h106
                    refine V_end (fun a ha119 => ?_)
                    exact ⟨w64 (s103 + 1), h107, ⟨(), ha119.sub ⟨rfl, rfl, rfl, trivial⟩, rfl⟩⟩
                · rw [if_neg (nt hc112)] at h106
                  obtain rfl := Option.some.inj h106
                  refine C_exit (fun a ha120 => ?_)
                  exact ⟨s103, ha120.sub trivial, ⟨h107.symm, rfl⟩⟩
              rintro s97 _ ⟨rfl, rfl⟩ a ha102
              rw [Lp.andThen_fin] at hm
              refine C_at (n := ⟨102, [], none⟩) (fun _ _ => rfl) ?_ ha102
              refine C_seq ?_
              refine C_region ?_
              refine V_y (Y_assign rfl) rfl rfl rfl ?_
              refine V_to (fun _ _ => rfl) ?_
              obtain rfl := Option.some.inj hm
              refine C_ret ?_
              try simp only [↓inBlock_ret, ↓then_ret]
              exact retQ rfl (Res.one Tryd.results23 rfl) ⟨rfl, hK.kp⟩

set_option maxRecDepth 4000 in
set_option maxHeartbeats 4000000 in
theorem level_checkLevel_c (w : World) {A : Nat → Prop} (hA : ∀ b, w.heap.size ≤ b → A b) (l : level_Level) (v_l0 : Value) (h_l0 : Sl A w v_l0 l.tests) (v_l1 : Value) (h_l1 : Sl A w v_l1 l.targets) {r : Int} (hm : level_checkLevel l = some r) : Ret Tryd.prog 17 #[.agg #[.string l.name, v_l0, v_l1]] w fun v w' => v = .int .i64 r ∧ Kp Dw w w' := by
  unfold level_checkLevel at hm
  refine enter Tryd.func17 rfl Tryd.ntmps17 rfl ?_
  have hA0 := hA
  have hB := Nat.le_refl w.heap.size
  have hK : Tr Dw w.heap.size A w A w := Tr.refl (Dw := Dw) hA
  have hH : Hp w.heap.size A w [] := Hp.nil
  refine C_seq ?_
  refine C_region ?_
  refine V_box rfl rfl ?_
  intro b5 w6 h7
  have hk9 := h7.kp (Dw := Dw)
  have h8 : El (α := level_Level) A w6 b5 0 l := h7.el hA ⟨[.string l.name], _, rfl, rfl, ⟨[v_l0], _, rfl, ⟨_, rfl, h_l0⟩, ⟨_, rfl, h_l1⟩⟩⟩
  have ht10 := Kp.tr (Dw := Dw) hk9 hA hB
  replace hH := Hp.kp (Dw := Dw) hH hk9
  replace h_l0 := Sl.tr (Dw := Dw) h_l0 ht10
  replace h_l1 := Sl.tr (Dw := Dw) h_l1 ht10
  replace hK := Tr.trans (Dw := Dw) hK ht10
  replace hB := Nat.le_trans hB ht10.ex.size
  replace hA := ht10.new
  refine V_y (Y_assign rfl) rfl rfl rfl ?_
  refine V_to (fun _ _ => rfl) ?_
  refine C_seq ?_
  refine C_seq ?_
  refine C_region ?_
  have h11 := El_level_Level_1 h8
  refine V_y (Y_fieldAddr Tryd.underlying44 rfl Tryd.sizeOf41 (by decide) rfl) rfl rfl rfl ?_
  obtain ⟨v12, h13, h14⟩ := El.list h11
  refine V_y (Y_load h13 Tryd.isAgg41 rfl) rfl rfl rfl ?_
  refine V_y (Y_lenSl h14 rfl Tryd.underlying41 rfl) rfl rfl rfl ?_
  refine V_y (Y_gtr rfl rfl) rfl rfl rfl ?_
  refine V_to (fun _ _ => rfl) ?_
  refine C_cond rfl (fun hc15 => ?_) (fun hc15 => ?_)
  · rw [if_pos hc15] at hm
    refine C_seq ?_
    refine C_region ?_
    refine V_y (Y_assign rfl) rfl rfl rfl ?_
    refine V_to (fun _ _ => rfl) ?_
    obtain rfl := Option.some.inj hm
    refine C_ret ?_
    try simp only [↓inBlock_ret, ↓then_ret]
    exact retQ rfl (Res.one Tryd.results17 rfl) ⟨rfl, hK.kp⟩
  · rw [if_neg (nt hc15)] at hm
    refine C_skip_to (fun _ _ => rfl) ?_
    refine C_seq ?_
    refine C_region ?_
    refine V_y (Y_assign rfl) rfl rfl rfl ?_
    refine V_to (fun _ _ => rfl) ?_
    refine C_seq ?_
    refine C_seq ?_
    refine C_region ?_
    have h16 := El_level_Level_1 h8
    refine V_y (Y_fieldAddr Tryd.underlying44 rfl Tryd.sizeOf41 (by decide) rfl) rfl rfl rfl ?_
    obtain ⟨v17, h18, h19⟩ := El.list h16
    refine V_y (Y_load h18 Tryd.isAgg41 rfl) rfl rfl rfl ?_
    refine V_y (Y_lenSl h19 rfl Tryd.underlying41 rfl) rfl rfl rfl ?_
    refine V_y (Y_move rfl) rfl rfl rfl ?_
    refine V_to (fun _ _ => rfl) ?_
    have hn40 := Sl.le h19
    obtain ⟨o20, ho20, hm⟩ := Option.bind_eq_some_iff.1 hm
    refine C_cutG (ι := (Int × (Nat → Prop))) (fun ⟨s21, A27⟩ => [(1, .pointer (some ⟨b5, 0, none⟩))]) (fun ⟨s21, A27⟩ => fun w' => o20 = .fin s21 ∧ Hp w.heap.size A27 w' ([]) ∧ Tr Dw w.heap.size A w6 A27 w') ?_ ?_
    · refine C_block ?_
      refine C_range ho20 (fun k23 s29 a w' => ∃ i : (Nat → Prop), Has ⟨68, [], none⟩ a ([(1, .pointer (some ⟨b5, 0, none⟩)), (3, .int .i64 s29), (14, v17), (15, .int .i64 (l.tests.length : Int)), (16, .int .i64 (k23 : Int))]) ∧ Hp w.heap.size i w' ([]) ∧ Tr Dw w.heap.size A w6 i w') (fun a ha => ⟨A, ha.sub ⟨rfl, rfl, rfl, rfl, rfl, trivial⟩, ⟨hH, Tr.refl (Dw := Dw) hA⟩⟩) ?_
      rintro K k23 s29 a w30 ⟨A31, ha64, hH32, hr22⟩ hle36 K39 h38
      refine C_of ?_ ha64
      replace h8 := El.tr (Dw := Dw) h8 hr22
      replace h19 := Sl.tr (Dw := Dw) h19 hr22
      replace hK := Tr.trans (Dw := Dw) hK hr22
      replace hB := Nat.le_trans hB hr22.ex.size
      replace hA := hr22.new
      replace hH : Hp w.heap.size A31 w30 ([]) := hH32
      refine C_seq (C_region (V_y (Y_lss rfl rfl) rfl rfl rfl (V_to (fun _ _ => rfl) ?_)))
      refine C_seq ?_
      refine C_cond rfl (fun hc41 => ?_) (fun hc41 => ?_)
      · have hlt37 := lt_of_dec hc41
        obtain ⟨x33, h34, h35⟩ := K39 hlt37
        refine C_skip_to (fun _ _ => rfl) ?_
        refine C_seq ?_
        refine C_block ?_
        refine C_seq ?_
        refine C_region ?_
        obtain ⟨x42, hx42, h34⟩ := Option.bind_eq_some_iff.1 h34
        refine V_indexAddr h19 hx42 Tryd.underlying41 Tryd.sizeOf48 rfl rfl rfl ?_
        intro b43 o44 h45
        obtain ⟨h46, _⟩ := El_level_Test h45
        refine V_y (Y_loadA h46 Tryd.isAgg48 Tryd.sizeOf48 rfl) rfl rfl rfl ?_
        refine V_alloc Tryd.zeroValue48 rfl ?_
        intro b47 w48 h49
        refine V_storeNew h49 Tryd.sizeOf48 rfl rfl rfl rfl (by exact (List.forall_mem_cons.2 ⟨rfl, (List.forall_mem_cons.2 ⟨rfl, (List.forall_mem_cons.2 ⟨rfl, (List.forall_mem_cons.2 ⟨rfl, (fun _ h => nomatch h)⟩)⟩)⟩)⟩)) ?_
        intro w50 h51
        have hk53 := h51.kp (Dw := Dw)
        have h52 : El (α := level_Test) A31 w50 b47 0 x42 := h51.el hA ⟨[.int .i64 x42.field], _, rfl, rfl, ⟨[.int .i64 x42.value.kind], _, rfl, rfl, ⟨[.int .i64 x42.value.int], _, rfl, rfl, rfl⟩⟩⟩
        have ht54 := Kp.tr (Dw := Dw) hk53 hA hB
        replace hH := Hp.kp (Dw := Dw) hH hk53
        replace h8 := El.tr (Dw := Dw) h8 ht54
        replace h19 := Sl.tr (Dw := Dw) h19 ht54
        replace h45 := El.tr (Dw := Dw) h45 ht54
        replace hK := Tr.trans (Dw := Dw) hK ht54
        replace hr22 := Tr.trans (Dw := Dw) hr22 ht54
        replace hB := Nat.le_trans hB ht54.ex.size
        replace hA := ht54.new
        refine V_to (fun _ _ => rfl) ?_
        refine C_seq ?_
        refine C_seq ?_
        refine C_region ?_
        obtain ⟨h55, _⟩ := El_level_Test h52
        refine V_y (Y_loadA h55 Tryd.isAgg48 Tryd.sizeOf48 rfl) rfl rfl rfl ?_
        refine V_y (Y_move rfl) rfl rfl rfl ?_
        obtain ⟨x56, hx56, h34⟩ := Option.bind_eq_some_iff.1 h34
        refine V_call Tryd.call23 rfl rfl rfl rfl (level_checkTest_c (Dw := Dw) w50 hA x42 s29 hx56) ?_
        rintro _ w57 ⟨rfl, hk58⟩
        have ht59 := Kp.tr (Dw := Dw) hk58 hA hB
        replace hH := Hp.kp (Dw := Dw) hH hk58
        replace h8 := El.tr (Dw := Dw) h8 ht59
        replace h19 := Sl.tr (Dw := Dw) h19 ht59
        replace h52 := El.tr (Dw := Dw) h52 ht59
        replace hK := Tr.trans (Dw := Dw) hK ht59
        replace hr22 := Tr.trans (Dw := Dw) hr22 ht59
        replace hB := Nat.le_trans hB ht59.ex.size
        replace hA := ht59.new
        refine V_y (Y_assign rfl) rfl rfl rfl ?_
        refine V_to (fun _ _ => rfl) ?_
        refine C_seq ?_
        refine C_region ?_
        refine V_y (Y_move rfl) rfl rfl rfl ?_
        refine V_y (Y_neq rfl rfl) rfl rfl rfl ?_
        refine V_to (fun _ _ => rfl) ?_
        refine C_cond rfl (fun hc60 => ?_) (fun hc60 => ?_)
        · rw [if_pos hc60] at h34
          refine C_seq ?_
          refine C_region ?_
          refine V_y (Y_move rfl) rfl rfl rfl ?_
          refine V_y (Y_assign rfl) rfl rfl rfl ?_
          refine V_to (fun _ _ => rfl) ?_
          obtain rfl := Option.some.inj h34
          obtain rfl := (h35 : Lp.rt _ = _)
          rw [Lp.andThen_rt] at hm
          obtain rfl := Option.some.inj hm
          refine C_ret ?_
          try simp only [↓inBlock_ret, ↓then_ret]
          exact retQ rfl (Res.one Tryd.results17 rfl) ⟨rfl, hK.kp⟩
        · rw [if_neg (nt hc60)] at h34
          refine C_skip_to (fun _ _ => rfl) ?_
          refine C_region ?_
          have h61 := El_level_Test_0 h52
          refine V_y (Y_fieldAddr Tryd.underlying48 rfl Tryd.sizeOf3 (by decide) rfl) rfl rfl rfl ?_
          refine V_y (Y_load (El.int h61) Tryd.isAgg3 rfl) rfl rfl rfl ?_
          refine V_y (Y_assign rfl) rfl rfl rfl ?_
          refine V_to (fun _ _ => rfl) ?_
          refine C_region ?_
          refine V_y (Y_addI rfl rfl) rfl rfl rfl ?_
          refine V_y (Y_move rfl) rfl rfl rfl ?_
          obtain rfl := Option.some.inj h34
          refine V_end (fun a ha62 => ?_)
          exact ⟨x42.field, hlt37, h35, ⟨A31, ha62.sub ⟨rfl, rfl, rfl, rfl, (congrArg (fun z => some (Value.int .i64 z)) (w64_succ hlt37 hn40)), trivial⟩, ⟨hH, hr22⟩⟩⟩
      · refine C_exit (fun a ha63 => ?_)
        exact ⟨(s29, A31), ha63.sub ⟨rfl, trivial⟩, ⟨(h38 (eq_of_dec hle36 hc41)).symm, hH, hr22⟩⟩
    rintro ⟨s21, A27⟩ w24 ⟨rfl, hH28, hk25⟩ a ha26
    rw [Lp.andThen_fin] at hm
    replace h8 := El.tr (Dw := Dw) h8 hk25
    replace hK := Tr.trans (Dw := Dw) hK hk25
    replace hB := Nat.le_trans hB hk25.ex.size
    replace hA := hk25.new
    replace hH : Hp w.heap.size A27 w24 ([]) := hH28
    refine C_at (n := ⟨68, [], none⟩) (fun _ _ => rfl) ?_ ha26
    refine C_seq ?_
    refine C_seq ?_
    refine C_region ?_
    have h65 := El_level_Level_2 h8
    refine V_y (Y_fieldAddr Tryd.underlying44 rfl Tryd.sizeOf42 (by decide) rfl) rfl rfl rfl ?_
    obtain ⟨v66, h67, h68⟩ := El.list h65
    refine V_y (Y_load h67 Tryd.isAgg42 rfl) rfl rfl rfl ?_
    refine V_y (Y_lenSl h68 rfl Tryd.underlying42 rfl) rfl rfl rfl ?_
    refine V_y (Y_move rfl) rfl rfl rfl ?_
    refine V_to (fun _ _ => rfl) ?_
    have hn89 := Sl.le h68
    obtain ⟨o69, ho69, hm⟩ := Option.bind_eq_some_iff.1 hm
    refine C_cutG (ι := (Unit × (Nat → Prop))) (fun ⟨s70, A76⟩ => []) (fun ⟨s70, A76⟩ => fun w' => o69 = .fin s70 ∧ Hp w.heap.size A76 w' ([]) ∧ Tr Dw w.heap.size A27 w24 A76 w') ?_ ?_
    · refine C_block ?_
      refine C_range ho69 (fun k72 _ a w' => ∃ i : (Nat → Prop), Has ⟨68, [], none⟩ a ([(1, .pointer (some ⟨b5, 0, none⟩)), (30, v66), (31, .int .i64 (l.targets.length : Int)), (32, .int .i64 (k72 : Int))]) ∧ Hp w.heap.size i w' ([]) ∧ Tr Dw w.heap.size A27 w24 i w') (fun a ha => ⟨A27, ha.sub ⟨rfl, rfl, rfl, rfl, trivial⟩, ⟨hH, Tr.refl (Dw := Dw) hA⟩⟩) ?_
      rintro K k72 _ a w79 ⟨A80, ha130, hH81, hr71⟩ hle85 K88 h87
      refine C_of ?_ ha130
      replace h8 := El.tr (Dw := Dw) h8 hr71
      replace h68 := Sl.tr (Dw := Dw) h68 hr71
      replace hK := Tr.trans (Dw := Dw) hK hr71
      replace hB := Nat.le_trans hB hr71.ex.size
      replace hA := hr71.new
      replace hH : Hp w.heap.size A80 w79 ([]) := hH81
      refine C_seq (C_region (V_y (Y_lss rfl rfl) rfl rfl rfl (V_to (fun _ _ => rfl) ?_)))
      refine C_seq ?_
      refine C_cond rfl (fun hc90 => ?_) (fun hc90 => ?_)
      · have hlt86 := lt_of_dec hc90
        obtain ⟨x82, h83, h84⟩ := K88 hlt86
        refine C_skip_to (fun _ _ => rfl) ?_
        refine C_seq ?_
        refine C_block ?_
        refine C_seq ?_
        refine C_region ?_
        refine V_y (Y_move rfl) rfl rfl rfl ?_
        obtain ⟨x91, hx91, h83⟩ := Option.bind_eq_some_iff.1 h83
        refine V_indexAddr h68 hx91 Tryd.underlying42 Tryd.sizeOf52 rfl rfl rfl ?_
        intro b92 o93 h94
        obtain ⟨h95, _⟩ := El_level_Target h94
        refine V_y (Y_loadA h95 Tryd.isAgg52 Tryd.sizeOf52 rfl) rfl rfl rfl ?_
        refine V_alloc Tryd.zeroValue52 rfl ?_
        intro b96 w97 h98
        refine V_y (Y_assign rfl) rfl rfl rfl ?_
        refine V_storeNew h98 Tryd.sizeOf52 rfl rfl rfl rfl (by exact (List.forall_mem_cons.2 ⟨rfl, (List.forall_mem_cons.2 ⟨rfl, (List.forall_mem_cons.2 ⟨rfl, (fun _ h => nomatch h)⟩)⟩)⟩)) ?_
        intro w99 h100
        have hk102 := h100.kp (Dw := Dw)
        have h101 : El (α := level_Target) A80 w99 b96 0 x91 := h100.el hA ⟨[.int .i64 x91.kind], _, rfl, rfl, ⟨[.int .i64 x91.minutes], _, rfl, rfl, rfl⟩⟩
        have ht103 := Kp.tr (Dw := Dw) hk102 hA hB
        replace hH := Hp.kp (Dw := Dw) hH hk102
        replace h8 := El.tr (Dw := Dw) h8 ht103
        replace h68 := Sl.tr (Dw := Dw) h68 ht103
        replace h94 := El.tr (Dw := Dw) h94 ht103
        replace hK := Tr.trans (Dw := Dw) hK ht103
        replace hr71 := Tr.trans (Dw := Dw) hr71 ht103
        replace hB := Nat.le_trans hB ht103.ex.size
        replace hA := ht103.new
        refine V_to (fun _ _ => rfl) ?_
        refine C_seq ?_
        refine C_seq ?_
        refine C_region ?_
        have h104 := El_level_Target_0 h101
        refine V_y (Y_fieldAddr Tryd.underlying52 rfl Tryd.sizeOf3 (by decide) rfl) rfl rfl rfl ?_
        refine V_y (Y_load (El.int h104) Tryd.isAgg3 rfl) rfl rfl rfl ?_
        refine V_call Tryd.call11 rfl rfl rfl rfl (level_within_c w99 x91.kind 1 3) ?_
        rintro _ _ ⟨rfl, rfl⟩
        refine V_y (Y_not rfl) rfl rfl rfl ?_
        refine V_y (Y_move rfl) rfl rfl rfl ?_
        refine V_cut 5 (fun _ : Unit => [(1, .pointer (some ⟨b5, 0, none⟩)), (7, .int .i64 (k72 : Int)), (8, .pointer (some ⟨b96, 0, none⟩)), (30, v66), (31, .int .i64 (l.targets.length : Int)), (32, .int .i64 (k72 : Int)), (46, .bool ((!(level_within x91.kind 1 3)) || (!(level_within x91.minutes 0 100000))))]) (fun _ w' => w99 = w') ?_ ?_
        · simp only [List.take, List.drop]
          rcases Bool.eq_false_or_eq_true (!(level_within x91.kind 1 3)) with hc105 | hc105
          · refine V_gn rfl rfl rfl hc105 rfl rfl rfl ?_
            refine V_gn rfl rfl rfl hc105 rfl rfl rfl ?_
            refine V_gn rfl rfl rfl hc105 rfl rfl rfl ?_
            refine V_gn rfl rfl rfl hc105 rfl rfl rfl ?_
            refine V_y (Y_pick_te rfl hc105 rfl) rfl rfl rfl ?_
            exact V_end fun a ha => ⟨(), ha.sub ⟨rfl, rfl, rfl, rfl, rfl, rfl, (by rw [hc105]; rfl), trivial⟩, rfl⟩
          · refine V_ge rfl rfl rfl hc105 ?_
            have h107 := El_level_Target_1 h101
            refine V_y (Y_fieldAddr Tryd.underlying52 rfl Tryd.sizeOf3 (by decide) rfl) rfl rfl rfl ?_
            refine V_ge rfl rfl rfl hc105 ?_
            refine V_y (Y_load (El.int h107) Tryd.isAgg3 rfl) rfl rfl rfl ?_
            refine V_ge rfl rfl rfl hc105 ?_
            refine V_call Tryd.call11 rfl rfl rfl rfl (level_within_c w99 x91.minutes 0 100000) ?_
            rintro _ _ ⟨rfl, rfl⟩
            refine V_ge rfl rfl rfl hc105 ?_
            refine V_y (Y_not rfl) rfl rfl rfl ?_
            refine V_y (Y_pick_fe rfl hc105 rfl) rfl rfl rfl ?_
            exact V_end fun a ha => ⟨(), ha.sub ⟨rfl, rfl, rfl, rfl, rfl, rfl, (by rw [hc105]; rfl), trivial⟩, rfl⟩
        simp only [List.take, List.drop]
        rintro _ _ rfl
        refine V_y (Y_move rfl) rfl rfl rfl ?_
        refine V_cut 5 (fun _ : Unit => [(1, .pointer (some ⟨b5, 0, none⟩)), (7, .int .i64 (k72 : Int)), (8, .pointer (some ⟨b96, 0, none⟩)), (30, v66), (31, .int .i64 (l.targets.length : Int)), (32, .int .i64 (k72 : Int)), (52, .bool (((!(level_within x91.kind 1 3)) || (!(level_within x91.minutes 0 100000))) || (!(level_within x91.calendar 0 19))))]) (fun _ w' => w99 = w') ?_ ?_
        · simp only [List.take, List.drop]
          rcases Bool.eq_false_or_eq_true (((!(level_within x91.kind 1 3)) || (!(level_within x91.minutes 0 100000)))) with hc108 | hc108
          · refine V_gn rfl rfl rfl hc108 rfl rfl rfl ?_
            refine V_gn rfl rfl rfl hc108 rfl rfl rfl ?_
            refine V_gn rfl rfl rfl hc108 rfl rfl rfl ?_
            refine V_gn rfl rfl rfl hc108 rfl rfl rfl ?_
            refine V_y (Y_pick_te rfl hc108 rfl) rfl rfl rfl ?_
            exact V_end fun a ha => ⟨(), ha.sub ⟨rfl, rfl, rfl, rfl, rfl, rfl, (by rw [hc108]; rfl), trivial⟩, rfl⟩
          · refine V_ge rfl rfl rfl hc108 ?_
            have h110 := El_level_Target_2 h101
            refine V_y (Y_fieldAddr Tryd.underlying52 rfl Tryd.sizeOf3 (by decide) rfl) rfl rfl rfl ?_
            refine V_ge rfl rfl rfl hc108 ?_
            refine V_y (Y_load (El.int h110) Tryd.isAgg3 rfl) rfl rfl rfl ?_
            refine V_ge rfl rfl rfl hc108 ?_
            refine V_call Tryd.call11 rfl rfl rfl rfl (level_within_c w99 x91.calendar 0 19) ?_
            rintro _ _ ⟨rfl, rfl⟩
            refine V_ge rfl rfl rfl hc108 ?_
            refine V_y (Y_not rfl) rfl rfl rfl ?_
            refine V_y (Y_pick_fe rfl hc108 rfl) rfl rfl rfl ?_
            exact V_end fun a ha => ⟨(), ha.sub ⟨rfl, rfl, rfl, rfl, rfl, rfl, (by rw [hc108]; rfl), trivial⟩, rfl⟩
        simp only [List.take, List.drop]
        rintro _ _ rfl
        refine V_to (fun _ _ => rfl) ?_
        refine C_cond rfl (fun hc111 => ?_) (fun hc111 => ?_)
        · rw [if_pos hc111] at h83
          refine C_seq ?_
          refine C_region ?_
          refine V_y (Y_assign rfl) rfl rfl rfl ?_
          refine V_to (fun _ _ => rfl) ?_
          obtain rfl := Option.some.inj h83
          obtain rfl := (h84 : Lp.rt _ = _)
          rw [Lp.andThen_rt] at hm
          obtain rfl := Option.some.inj hm
          refine C_ret ?_
          try simp only [↓inBlock_ret, ↓then_ret]
          exact retQ rfl (Res.one Tryd.results17 rfl) ⟨rfl, hK.kp⟩
        · rw [if_neg (nt hc111)] at h83
          refine C_skip_to (fun _ _ => rfl) ?_
          refine C_seq ?_
          refine C_region_q (Dw := Dw) Tryd_mixed (by kernel_rfl) ?_
          refine VQ_y (fun w' hw' => Y_move rfl) rfl rfl rfl ?_
          refine VQ_y (fun w' hw' => Y_gtr rfl rfl) rfl rfl rfl ?_
          refine VQ_y (fun w' hw' => Y_move rfl) rfl rfl rfl ?_
          obtain ⟨s113, hs113, h83⟩ := Option.bind_eq_some_iff.1 h83
          refine VQ_cut 11 (fun _ : Unit => [(1, .pointer (some ⟨b5, 0, none⟩)), (30, v66), (31, .int .i64 (l.targets.length : Int)), (32, .int .i64 (k72 : Int)), (66, .bool s113)]) (fun _ => True) ?_ ?_
          · simp only [List.take, List.drop]
            rcases Bool.eq_false_or_eq_true (decide ((0 : Int) < (k72 : Int))) with hc112 | hc112
            · rw [if_pos hc112] at hs113
              refine VQ_ge rfl rfl rfl hc112 ?_
              have h114 := El_level_Target_0 h101
              refine VQ_y (fun w' hw' => Y_fieldAddr Tryd.underlying52 rfl Tryd.sizeOf3 (by decide) rfl) rfl rfl rfl ?_
              refine VQ_ge rfl rfl rfl hc112 ?_
              refine VQ_y (fun w' hw' => Y_load (El.int (El.kp (Dw := Dw) h114 hw')) Tryd.isAgg3 rfl) rfl rfl rfl ?_
              refine VQ_ge rfl rfl rfl hc112 ?_
              have h115 := El_level_Level_2 h8
              refine VQ_y (fun w' hw' => Y_fieldAddr Tryd.underlying44 rfl Tryd.sizeOf42 (by decide) rfl) rfl rfl rfl ?_
              refine VQ_ge rfl rfl rfl hc112 ?_
              obtain ⟨v116, h117, h118⟩ := El.list h115
              refine VQ_y (fun w' hw' => Y_load ((World.cell?_of_block (hw'.block _ (World.block_lt_of_cell? _ _ h117))).trans h117) Tryd.isAgg42 rfl) rfl rfl rfl ?_
              refine VQ_ge rfl rfl rfl hc112 ?_
              refine VQ_y (fun w' hw' => Y_move rfl) rfl rfl rfl ?_
              refine VQ_ge rfl rfl rfl hc112 ?_
              refine VQ_y (fun w' hw' => Y_subI rfl rfl) rfl rfl rfl ?_
              refine VQ_ge rfl rfl rfl hc112 ?_
              obtain ⟨x119, hx119, hs113⟩ := Option.bind_eq_some_iff.1 hs113
              refine VQ_indexAddr h118 hx119 Tryd.underlying42 Tryd.sizeOf52 rfl rfl rfl ?_
              intro b120 o121 h122
              refine VQ_ge rfl rfl rfl hc112 ?_
              have h123 := El_level_Target_0 h122
              refine VQ_y (fun w' hw' => Y_fieldAddr Tryd.underlying52 rfl Tryd.sizeOf3 (by decide) rfl) rfl rfl rfl ?_
              refine VQ_ge rfl rfl rfl hc112 ?_
              refine VQ_y (fun w' hw' => Y_load (El.int (El.kp (Dw := Dw) h123 hw')) Tryd.isAgg3 rfl) rfl rfl rfl ?_
              refine VQ_ge rfl rfl rfl hc112 ?_
              refine VQ_y (fun w' hw' => Y_leq rfl rfl) rfl rfl rfl ?_
              refine VQ_y (fun _ _ => Y_pick_te rfl hc112 rfl) rfl rfl rfl ?_
              obtain rfl := Option.some.inj hs113
              exact VQ_end fun a ha => ⟨(), ha.sub ⟨rfl, rfl, rfl, rfl, rfl, trivial⟩, trivial⟩
            · rw [if_neg (nt hc112)] at hs113
              refine VQ_gn rfl rfl rfl hc112 rfl rfl rfl ?_
              refine VQ_gn rfl rfl rfl hc112 rfl rfl rfl ?_
              refine VQ_gn rfl rfl rfl hc112 rfl rfl rfl ?_
              refine VQ_gn rfl rfl rfl hc112 rfl rfl rfl ?_
              refine VQ_gn rfl rfl rfl hc112 rfl rfl rfl ?_
              refine VQ_gn rfl rfl rfl hc112 rfl rfl rfl ?_
              refine VQ_gn rfl rfl rfl hc112 rfl rfl rfl ?_
              refine VQ_gn rfl rfl rfl hc112 rfl rfl rfl ?_
              refine VQ_gn rfl rfl rfl hc112 rfl rfl rfl ?_
              refine VQ_gn rfl rfl rfl hc112 rfl rfl rfl ?_
              refine VQ_y (fun _ _ => Y_pick_fe rfl hc112 rfl) rfl rfl rfl ?_
              obtain rfl := Option.some.inj hs113
              exact VQ_end fun a ha => ⟨(), ha.sub ⟨rfl, rfl, rfl, rfl, rfl, trivial⟩, trivial⟩
          simp only [List.take, List.drop]
          rintro _ _
          refine VQ_to (fun _ _ => rfl) (fun w124 hk125 => ?_)
          have ht126 := Kp.tr (Dw := Dw) hk125 hA hB
          replace hH := Hp.kp (Dw := Dw) hH hk125
          replace h8 := El.tr (Dw := Dw) h8 ht126
          replace h68 := Sl.tr (Dw := Dw) h68 ht126
          replace hK := Tr.trans (Dw := Dw) hK ht126
          replace hr71 := Tr.trans (Dw := Dw) hr71 ht126
          replace hB := Nat.le_trans hB ht126.ex.size
          replace hA := ht126.new
          refine C_cond rfl (fun hc127 => ?_) (fun hc127 => ?_)
          · rw [if_pos hc127] at h83
            refine C_seq ?_
            refine C_region ?_
            refine V_y (Y_assign rfl) rfl rfl rfl ?_
            refine V_to (fun _ _ => rfl) ?_
            obtain rfl := Option.some.inj h83
            obtain rfl := (h84 : Lp.rt _ = _)
            rw [Lp.andThen_rt] at hm
            obtain rfl := Option.some.inj hm
            refine C_ret ?_
            try simp only [↓inBlock_ret, ↓then_ret]
            exact retQ rfl (Res.one Tryd.results17 rfl) ⟨rfl, hK.kp⟩
          · rw [if_neg (nt hc127)] at h83
            refine C_skip_to (fun _ _ => rfl) ?_
            refine C_region ?_
            refine V_y (Y_addI rfl rfl) rfl rfl rfl ?_
            refine V_y (Y_move rfl) rfl rfl rfl ?_
            obtain rfl := Option.some.inj h83
            refine V_end (fun a ha128 => ?_)
            exact ⟨(), hlt86, h84, ⟨A80, ha128.sub ⟨rfl, rfl, rfl, (congrArg (fun z => some (Value.int .i64 z)) (w64_succ hlt86 hn89)), trivial⟩, ⟨hH, hr71⟩⟩⟩
      · refine C_exit (fun a ha129 => ?_)
        exact ⟨((), A80), ha129.sub trivial, ⟨(h87 (eq_of_dec hle85 hc90)).symm, hH, hr71⟩⟩
    rintro ⟨s70, A76⟩ w73 ⟨rfl, hH77, hk74⟩ a ha75
    rw [Lp.andThen_fin] at hm
    replace hK := Tr.trans (Dw := Dw) hK hk74
    replace hB := Nat.le_trans hB hk74.ex.size
    replace hA := hk74.new
    replace hH : Hp w.heap.size A76 w73 ([]) := hH77
    refine C_at (n := ⟨68, [], none⟩) (fun _ _ => rfl) ?_ ha75
    refine C_seq ?_
    refine C_region ?_
    refine V_y (Y_assign rfl) rfl rfl rfl ?_
    refine V_to (fun _ _ => rfl) ?_
    obtain rfl := Option.some.inj hm
    refine C_ret ?_
    try simp only [↓inBlock_ret, ↓then_ret]
    exact retQ rfl (Res.one Tryd.results17 rfl) ⟨rfl, hK.kp⟩

set_option maxRecDepth 4000 in
set_option maxHeartbeats 4000000 in
theorem level_CheckPolicy_c (w : World) {A : Nat → Prop} (hA : ∀ b, w.heap.size ≤ b → A b) (p : level_Policy) (v_p0 : Value) (h_p0 : Sl A w v_p0 p.pauses) (v_p1 : Value) (h_p1 : Sl A w v_p1 p.levels) {r : Int} (hm : level_CheckPolicy p = some r) : Ret Tryd.prog 6 #[.agg #[v_p0, v_p1]] w fun v w' => v = .int .i64 r ∧ Kp Dw w w' := by
  unfold level_CheckPolicy at hm
  refine enter Tryd.func6 rfl Tryd.ntmps6 rfl ?_
  have hA0 := hA
  have hB := Nat.le_refl w.heap.size
  have hK : Tr Dw w.heap.size A w A w := Tr.refl (Dw := Dw) hA
  have hH : Hp w.heap.size A w [] := Hp.nil
  refine C_seq ?_
  refine C_region ?_
  refine V_box rfl rfl ?_
  intro b5 w6 h7
  have hk9 := h7.kp (Dw := Dw)
  have h8 : El (α := level_Policy) A w6 b5 0 p := h7.el hA ⟨[v_p0], _, rfl, ⟨_, rfl, h_p0⟩, ⟨_, rfl, h_p1⟩⟩
  have ht10 := Kp.tr (Dw := Dw) hk9 hA hB
  replace hH := Hp.kp (Dw := Dw) hH hk9
  replace h_p0 := Sl.tr (Dw := Dw) h_p0 ht10
  replace h_p1 := Sl.tr (Dw := Dw) h_p1 ht10
  replace hK := Tr.trans (Dw := Dw) hK ht10
  replace hB := Nat.le_trans hB ht10.ex.size
  replace hA := ht10.new
  refine V_y (Y_assign rfl) rfl rfl rfl ?_
  refine V_to (fun _ _ => rfl) ?_
  refine C_seq ?_
  refine C_seq ?_
  refine C_region ?_
  have h11 := El_level_Policy_0 h8
  refine V_y (Y_fieldAddr Tryd.underlying25 rfl Tryd.sizeOf22 (by decide) rfl) rfl rfl rfl ?_
  obtain ⟨v12, h13, h14⟩ := El.list h11
  refine V_y (Y_load h13 Tryd.isAgg22 rfl) rfl rfl rfl ?_
  refine V_y (Y_lenSl h14 rfl Tryd.underlying22 rfl) rfl rfl rfl ?_
  refine V_y (Y_move rfl) rfl rfl rfl ?_
  refine V_to (fun _ _ => rfl) ?_
  have hn31 := Sl.le h14
  obtain ⟨o15, ho15, hm⟩ := Option.bind_eq_some_iff.1 hm
  refine C_cutG (ι := Unit) (fun (s16 : Unit) => [(1, .pointer (some ⟨b5, 0, none⟩))]) (fun (s16 : Unit) => fun w' => o15 = .fin s16 ∧ w6 = w') ?_ ?_
  · refine C_block ?_
    refine C_range ho15 (fun k18 _ a w' => ∃ i : Unit, Has ⟨62, [], none⟩ a ([(1, .pointer (some ⟨b5, 0, none⟩)), (10, v12), (11, .int .i64 (p.pauses.length : Int)), (12, .int .i64 (k18 : Int))]) ∧ w6 = w') (fun a ha => ⟨(), ha.sub ⟨rfl, rfl, rfl, rfl, trivial⟩, rfl⟩) ?_
    rintro K k18 _ a _ ⟨_, ha51, rfl⟩ hle27 K30 h29
    refine C_of ?_ ha51
    refine C_seq (C_region (V_y (Y_lss rfl rfl) rfl rfl rfl (V_to (fun _ _ => rfl) ?_)))
    refine C_seq ?_
    refine C_cond rfl (fun hc32 => ?_) (fun hc32 => ?_)
    · have hlt28 := lt_of_dec hc32
      obtain ⟨x24, h25, h26⟩ := K30 hlt28
      refine C_skip_to (fun _ _ => rfl) ?_
      refine C_seq ?_
      refine C_block ?_
      refine C_seq ?_
      refine C_region ?_
      refine V_y (Y_move rfl) rfl rfl rfl ?_
      obtain ⟨x33, hx33, h25⟩ := Option.bind_eq_some_iff.1 h25
      refine V_indexAddr h14 hx33 Tryd.underlying22 Tryd.sizeOf3 rfl rfl rfl ?_
      intro b34 o35 h36
      refine V_y (Y_load (El.int h36) Tryd.isAgg3 rfl) rfl rfl rfl ?_
      refine V_y (Y_assign rfl) rfl rfl rfl ?_
      refine V_y (Y_assign rfl) rfl rfl rfl ?_
      refine V_to (fun _ _ => rfl) ?_
      refine C_seq ?_
      refine C_seq ?_
      refine C_region ?_
      refine V_y (Y_move rfl) rfl rfl rfl ?_
      refine V_call Tryd.call11 rfl rfl rfl rfl (level_within_c w6 x33 1 4) ?_
      rintro _ _ ⟨rfl, rfl⟩
      refine V_y (Y_not rfl) rfl rfl rfl ?_
      refine V_to (fun _ _ => rfl) ?_
      refine C_cond rfl (fun hc37 => ?_) (fun hc37 => ?_)
      · rw [if_pos hc37] at h25
        refine C_seq ?_
        refine C_region ?_
        refine V_y (Y_assign rfl) rfl rfl rfl ?_
        refine V_to (fun _ _ => rfl) ?_
        obtain rfl := Option.some.inj h25
        obtain rfl := (h26 : Lp.rt _ = _)
        rw [Lp.andThen_rt] at hm
        obtain rfl := Option.some.inj hm
        refine C_ret ?_
        try simp only [↓inBlock_ret, ↓then_ret]
        exact retQ rfl (Res.one Tryd.results6 rfl) ⟨rfl, hK.kp⟩
      · rw [if_neg (nt hc37)] at h25
        refine C_skip_to (fun _ _ => rfl) ?_
        refine C_seq ?_
        refine C_region ?_
        refine V_y (Y_move rfl) rfl rfl rfl ?_
        refine V_y (Y_gtr rfl rfl) rfl rfl rfl ?_
        refine V_y (Y_move rfl) rfl rfl rfl ?_
        obtain ⟨s39, hs39, h25⟩ := Option.bind_eq_some_iff.1 h25
        refine V_cut 9 (fun _ : Unit => [(1, .pointer (some ⟨b5, 0, none⟩)), (10, v12), (11, .int .i64 (p.pauses.length : Int)), (12, .int .i64 (k18 : Int)), (31, .bool s39)]) (fun _ w' => w6 = w') ?_ ?_
        · simp only [List.take, List.drop]
          rcases Bool.eq_false_or_eq_true (decide ((0 : Int) < (k18 : Int))) with hc38 | hc38
          · rw [if_pos hc38] at hs39
            refine V_ge rfl rfl rfl hc38 ?_
            refine V_y (Y_move rfl) rfl rfl rfl ?_
            refine V_ge rfl rfl rfl hc38 ?_
            have h40 := El_level_Policy_0 h8
            refine V_y (Y_fieldAddr Tryd.underlying25 rfl Tryd.sizeOf22 (by decide) rfl) rfl rfl rfl ?_
            refine V_ge rfl rfl rfl hc38 ?_
            obtain ⟨v41, h42, h43⟩ := El.list h40
            refine V_y (Y_load h42 Tryd.isAgg22 rfl) rfl rfl rfl ?_
            refine V_ge rfl rfl rfl hc38 ?_
            refine V_y (Y_move rfl) rfl rfl rfl ?_
            refine V_ge rfl rfl rfl hc38 ?_
            refine V_y (Y_subI rfl rfl) rfl rfl rfl ?_
            refine V_ge rfl rfl rfl hc38 ?_
            obtain ⟨x44, hx44, hs39⟩ := Option.bind_eq_some_iff.1 hs39
            refine V_indexAddr h43 hx44 Tryd.underlying22 Tryd.sizeOf3 rfl rfl rfl ?_
            intro b45 o46 h47
            refine V_ge rfl rfl rfl hc38 ?_
            refine V_y (Y_load (El.int h47) Tryd.isAgg3 rfl) rfl rfl rfl ?_
            refine V_ge rfl rfl rfl hc38 ?_
            refine V_y (Y_leq rfl rfl) rfl rfl rfl ?_
            refine V_y (Y_pick_te rfl hc38 rfl) rfl rfl rfl ?_
            obtain rfl := Option.some.inj hs39
            exact V_end fun a ha => ⟨(), ha.sub ⟨rfl, rfl, rfl, rfl, rfl, trivial⟩, rfl⟩
          · rw [if_neg (nt hc38)] at hs39
            refine V_gn rfl rfl rfl hc38 rfl rfl rfl ?_
            refine V_gn rfl rfl rfl hc38 rfl rfl rfl ?_
            refine V_gn rfl rfl rfl hc38 rfl rfl rfl ?_
            refine V_gn rfl rfl rfl hc38 rfl rfl rfl ?_
            refine V_gn rfl rfl rfl hc38 rfl rfl rfl ?_
            refine V_gn rfl rfl rfl hc38 rfl rfl rfl ?_
            refine V_gn rfl rfl rfl hc38 rfl rfl rfl ?_
            refine V_gn rfl rfl rfl hc38 rfl rfl rfl ?_
            refine V_y (Y_pick_fe rfl hc38 rfl) rfl rfl rfl ?_
            obtain rfl := Option.some.inj hs39
            exact V_end fun a ha => ⟨(), ha.sub ⟨rfl, rfl, rfl, rfl, rfl, trivial⟩, rfl⟩
        simp only [List.take, List.drop]
        rintro _ _ rfl
        refine V_to (fun _ _ => rfl) ?_
        refine C_cond rfl (fun hc48 => ?_) (fun hc48 => ?_)
        · rw [if_pos hc48] at h25
          refine C_seq ?_
          refine C_region ?_
          refine V_y (Y_assign rfl) rfl rfl rfl ?_
          refine V_to (fun _ _ => rfl) ?_
          obtain rfl := Option.some.inj h25
          obtain rfl := (h26 : Lp.rt _ = _)
          rw [Lp.andThen_rt] at hm
          obtain rfl := Option.some.inj hm
          refine C_ret ?_
          try simp only [↓inBlock_ret, ↓then_ret]
          exact retQ rfl (Res.one Tryd.results6 rfl) ⟨rfl, hK.kp⟩
        · rw [if_neg (nt hc48)] at h25
          refine C_skip_to (fun _ _ => rfl) ?_
          refine C_region ?_
          refine V_y (Y_addI rfl rfl) rfl rfl rfl ?_
          refine V_y (Y_move rfl) rfl rfl rfl ?_
          obtain rfl := Option.some.inj h25
          refine V_end (fun a ha49 => ?_)
          exact ⟨(), hlt28, h26, ⟨(), ha49.sub ⟨rfl, rfl, rfl, (congrArg (fun z => some (Value.int .i64 z)) (w64_succ hlt28 hn31)), trivial⟩, rfl⟩⟩
    · refine C_exit (fun a ha50 => ?_)
      exact ⟨(), ha50.sub ⟨rfl, trivial⟩, ⟨(h29 (eq_of_dec hle27 hc32)).symm, rfl⟩⟩
  rintro s16 _ ⟨rfl, rfl⟩ a ha21
  rw [Lp.andThen_fin] at hm
  refine C_at (n := ⟨62, [], none⟩) (fun _ _ => rfl) ?_ ha21
  refine C_seq ?_
  refine C_seq ?_
  refine C_region ?_
  have h52 := El_level_Policy_1 h8
  refine V_y (Y_fieldAddr Tryd.underlying25 rfl Tryd.sizeOf23 (by decide) rfl) rfl rfl rfl ?_
  obtain ⟨v53, h54, h55⟩ := El.list h52
  refine V_y (Y_load h54 Tryd.isAgg23 rfl) rfl rfl rfl ?_
  refine V_y (Y_lenSl h55 rfl Tryd.underlying23 rfl) rfl rfl rfl ?_
  refine V_y (Y_gtr rfl rfl) rfl rfl rfl ?_
  refine V_to (fun _ _ => rfl) ?_
  refine C_cond rfl (fun hc56 => ?_) (fun hc56 => ?_)
  · rw [if_pos hc56] at hm
    refine C_seq ?_
    refine C_region ?_
    refine V_y (Y_assign rfl) rfl rfl rfl ?_
    refine V_to (fun _ _ => rfl) ?_
    obtain rfl := Option.some.inj hm
    refine C_ret ?_
    try simp only [↓inBlock_ret, ↓then_ret]
    exact retQ rfl (Res.one Tryd.results6 rfl) ⟨rfl, hK.kp⟩
  · rw [if_neg (nt hc56)] at hm
    refine C_skip_to (fun _ _ => rfl) ?_
    refine C_seq ?_
    refine C_region ?_
    refine V_makeMapS (Dw := Dw) (B := w.heap.size) ByteArray Bool hH hB hA rfl ?_
    intro b57 w58 A59 hH60 ht61
    replace h8 := El.tr (Dw := Dw) h8 ht61
    replace hK := Tr.trans (Dw := Dw) hK ht61
    replace hB := Nat.le_trans hB ht61.ex.size
    replace hA := ht61.new
    replace hH : Hp w.heap.size A59 w58 (obSM (κ := ByteArray) (α := Bool) b57 ([] : List (ByteArray × Bool)) :: []) := hH60
    refine V_y (Y_assign rfl) rfl rfl rfl ?_
    refine V_to (fun _ _ => rfl) ?_
    refine C_seq ?_
    refine C_seq ?_
    refine C_region ?_
    have h62 := El_level_Policy_1 h8
    refine V_y (Y_fieldAddr Tryd.underlying25 rfl Tryd.sizeOf23 (by decide) rfl) rfl rfl rfl ?_
    obtain ⟨v63, h64, h65⟩ := El.list h62
    refine V_y (Y_load h64 Tryd.isAgg23 rfl) rfl rfl rfl ?_
    refine V_y (Y_lenSl h65 rfl Tryd.underlying23 rfl) rfl rfl rfl ?_
    refine V_y (Y_move rfl) rfl rfl rfl ?_
    refine V_to (fun _ _ => rfl) ?_
    have hn86 := Sl.le h65
    obtain ⟨o66, ho66, hm⟩ := Option.bind_eq_some_iff.1 hm
    refine C_cutG (ι := ((List (ByteArray × Bool)) × (Nat → Prop))) (fun ⟨s67, A73⟩ => []) (fun ⟨s67, A73⟩ => fun w' => o66 = .fin s67 ∧ Hp w.heap.size A73 w' (obSM (κ := ByteArray) (α := Bool) b57 s67 :: []) ∧ Tr Dw w.heap.size A59 w58 A73 w') ?_ ?_
    · refine C_block ?_
      refine C_range ho66 (fun k69 s75 a w' => ∃ i : (Nat → Prop), Has ⟨62, [], none⟩ a ([(5, .map (some b57)), (39, v63), (40, .int .i64 (p.levels.length : Int)), (41, .int .i64 (k69 : Int))]) ∧ Hp w.heap.size i w' (obSM (κ := ByteArray) (α := Bool) b57 s75 :: []) ∧ Tr Dw w.heap.size A59 w58 i w') (fun a ha => ⟨A59, ha.sub ⟨rfl, rfl, rfl, rfl, trivial⟩, ⟨hH, Tr.refl (Dw := Dw) hA⟩⟩) ?_
      rintro K k69 s75 a w76 ⟨A77, ha132, hH78, hr68⟩ hle82 K85 h84
      refine C_of ?_ ha132
      replace h65 := Sl.tr (Dw := Dw) h65 hr68
      replace hK := Tr.trans (Dw := Dw) hK hr68
      replace hB := Nat.le_trans hB hr68.ex.size
      replace hA := hr68.new
      replace hH : Hp w.heap.size A77 w76 (obSM (κ := ByteArray) (α := Bool) b57 s75 :: []) := hH78
      refine C_seq (C_region (V_y (Y_lss rfl rfl) rfl rfl rfl (V_to (fun _ _ => rfl) ?_)))
      refine C_seq ?_
      refine C_cond rfl (fun hc87 => ?_) (fun hc87 => ?_)
      · have hlt83 := lt_of_dec hc87
        obtain ⟨x79, h80, h81⟩ := K85 hlt83
        refine C_skip_to (fun _ _ => rfl) ?_
        refine C_seq ?_
        refine C_block ?_
        refine C_seq ?_
        refine C_region ?_
        obtain ⟨x88, hx88, h80⟩ := Option.bind_eq_some_iff.1 h80
        refine V_indexAddr h65 hx88 Tryd.underlying23 Tryd.sizeOf44 rfl rfl rfl ?_
        intro b89 o90 h91
        obtain ⟨v92, v94, h96, h93, h95⟩ := El_level_Level h91
        refine V_y (Y_loadA h96 Tryd.isAgg44 Tryd.sizeOf44 rfl) rfl rfl rfl ?_
        refine V_alloc Tryd.zeroValue44 rfl ?_
        intro b97 w98 h99
        have h104 : (v92).oneCell' = true := by obtain ⟨_, _, e, _⟩ := Sl.form h93; rw [e]; rfl
        have h107 : (v94).oneCell' = true := by obtain ⟨_, _, e, _⟩ := Sl.form h95; rw [e]; rfl
        refine V_storeNew h99 Tryd.sizeOf44 rfl rfl rfl rfl (by exact (List.forall_mem_cons.2 ⟨rfl, (List.forall_mem_cons.2 ⟨h104, (List.forall_mem_cons.2 ⟨h107, (fun _ h => nomatch h)⟩)⟩)⟩)) ?_
        intro w100 h101
        have hk109 := h101.kp (Dw := Dw)
        have h108 : El (α := level_Level) A77 w100 b97 0 x88 := h101.el hA ⟨[.string x88.name], _, rfl, rfl, ⟨[v92], _, rfl, ⟨_, rfl, h93⟩, ⟨_, rfl, h95⟩⟩⟩
        have ht110 := Kp.tr (Dw := Dw) hk109 hA hB
        replace hH := Hp.kp (Dw := Dw) hH hk109
        replace h65 := Sl.tr (Dw := Dw) h65 ht110
        replace h91 := El.tr (Dw := Dw) h91 ht110
        replace h93 := Sl.tr (Dw := Dw) h93 ht110
        replace h95 := Sl.tr (Dw := Dw) h95 ht110
        replace hK := Tr.trans (Dw := Dw) hK ht110
        replace hr68 := Tr.trans (Dw := Dw) hr68 ht110
        replace hB := Nat.le_trans hB ht110.ex.size
        replace hA := ht110.new
        refine V_to (fun _ _ => rfl) ?_
        refine C_seq ?_
        refine C_seq ?_
        refine C_region ?_
        have h111 := El_level_Level_0 h108
        refine V_y (Y_fieldAddr Tryd.underlying44 rfl Tryd.sizeOf9 (by decide) rfl) rfl rfl rfl ?_
        refine V_y (Y_load (El.str h111) Tryd.isAgg9 rfl) rfl rfl rfl ?_
        obtain ⟨x112, hx112, h80⟩ := Option.bind_eq_some_iff.1 h80
        refine V_call Tryd.call16 rfl rfl rfl rfl (level_name_c w100 x88.name hx112) ?_
        rintro _ _ ⟨rfl, rfl⟩
        refine V_y (Y_not rfl) rfl rfl rfl ?_
        refine V_to (fun _ _ => rfl) ?_
        refine C_cond rfl (fun hc113 => ?_) (fun hc113 => ?_)
        · rw [if_pos hc113] at h80
          refine C_seq ?_
          refine C_region ?_
          refine V_y (Y_assign rfl) rfl rfl rfl ?_
          refine V_to (fun _ _ => rfl) ?_
          obtain rfl := Option.some.inj h80
          obtain rfl := (h81 : Lp.rt _ = _)
          rw [Lp.andThen_rt] at hm
          obtain rfl := Option.some.inj hm
          refine C_ret ?_
          try simp only [↓inBlock_ret, ↓then_ret]
          exact retQ rfl (Res.one Tryd.results6 rfl) ⟨rfl, hK.kp⟩
        · rw [if_neg (nt hc113)] at h80
          refine C_skip_to (fun _ _ => rfl) ?_
          refine C_seq ?_
          refine C_seq ?_
          refine C_region ?_
          refine V_y (Y_move rfl) rfl rfl rfl ?_
          have h114 := El_level_Level_0 h108
          refine V_y (Y_fieldAddr Tryd.underlying44 rfl Tryd.sizeOf9 (by decide) rfl) rfl rfl rfl ?_
          refine V_y (Y_load (El.str h114) Tryd.isAgg9 rfl) rfl rfl rfl ?_
          refine V_y (Y_lookupS (κ := ByteArray) (α := Bool) (z := false) (l := s75) hH (i := 0) rfl Tryd.underlying57 Tryd.underlying9 Tryd.zeroValue4 rfl rfl rfl) rfl rfl rfl ?_
          refine V_to (fun _ _ => rfl) ?_
          refine C_cond rfl (fun hc115 => ?_) (fun hc115 => ?_)
          · rw [if_pos hc115] at h80
            refine C_seq ?_
            refine C_region ?_
            refine V_y (Y_assign rfl) rfl rfl rfl ?_
            refine V_to (fun _ _ => rfl) ?_
            obtain rfl := Option.some.inj h80
            obtain rfl := (h81 : Lp.rt _ = _)
            rw [Lp.andThen_rt] at hm
            obtain rfl := Option.some.inj hm
            refine C_ret ?_
            try simp only [↓inBlock_ret, ↓then_ret]
            exact retQ rfl (Res.one Tryd.results6 rfl) ⟨rfl, hK.kp⟩
          · rw [if_neg (nt hc115)] at h80
            refine C_skip_to (fun _ _ => rfl) ?_
            refine C_seq ?_
            refine C_region ?_
            refine V_y (Y_move rfl) rfl rfl rfl ?_
            have h116 := El_level_Level_0 h108
            refine V_y (Y_fieldAddr Tryd.underlying44 rfl Tryd.sizeOf9 (by decide) rfl) rfl rfl rfl ?_
            refine V_y (Y_load (El.str h116) Tryd.isAgg9 rfl) rfl rfl rfl ?_
            refine V_mapUpdateS (Dw := Dw) (κ := ByteArray) (α := Bool) (l := s75) (c := true) hH (i := 0) rfl Tryd.underlying57 Tryd.underlying9 rfl rfl rfl hB hA ?_
            intro w117 hH118 ht119
            replace h65 := Sl.tr (Dw := Dw) h65 ht119
            replace h108 := El.tr (Dw := Dw) h108 ht119
            replace h116 := El.tr (Dw := Dw) h116 ht119
            replace hK := Tr.trans (Dw := Dw) hK ht119
            replace hr68 := Tr.trans (Dw := Dw) hr68 ht119
            replace hB := Nat.le_trans hB ht119.ex.size
            replace hA := ht119.new
            replace hH : Hp w.heap.size A77 w117 (obSM (κ := ByteArray) (α := Bool) b57 (mapPut s75 x88.name true) :: []) := hH118
            refine V_to (fun _ _ => rfl) ?_
            refine C_seq ?_
            refine C_region ?_
            obtain ⟨v120, v122, h124, h121, h123⟩ := El_level_Level h108
            refine V_y (Y_loadA h124 Tryd.isAgg44 Tryd.sizeOf44 rfl) rfl rfl rfl ?_
            obtain ⟨x125, hx125, h80⟩ := Option.bind_eq_some_iff.1 h80
            refine V_call Tryd.call17 rfl rfl rfl rfl (level_checkLevel_c (Dw := Dw) w117 hA x88 v120 h121 v122 h123 hx125) ?_
            rintro _ w126 ⟨rfl, hk127⟩
            have ht128 := Kp.tr (Dw := Dw) hk127 hA hB
            replace hH := Hp.kp (Dw := Dw) hH hk127
            replace h65 := Sl.tr (Dw := Dw) h65 ht128
            replace h108 := El.tr (Dw := Dw) h108 ht128
            replace h121 := Sl.tr (Dw := Dw) h121 ht128
            replace h123 := Sl.tr (Dw := Dw) h123 ht128
            replace hK := Tr.trans (Dw := Dw) hK ht128
            replace hr68 := Tr.trans (Dw := Dw) hr68 ht128
            replace hB := Nat.le_trans hB ht128.ex.size
            replace hA := ht128.new
            refine V_y (Y_assign rfl) rfl rfl rfl ?_
            refine V_to (fun _ _ => rfl) ?_
            refine C_seq ?_
            refine C_region ?_
            refine V_y (Y_move rfl) rfl rfl rfl ?_
            refine V_y (Y_neq rfl rfl) rfl rfl rfl ?_
            refine V_to (fun _ _ => rfl) ?_
            refine C_cond rfl (fun hc129 => ?_) (fun hc129 => ?_)
            · rw [if_pos hc129] at h80
              refine C_seq ?_
              refine C_region ?_
              refine V_y (Y_move rfl) rfl rfl rfl ?_
              refine V_y (Y_assign rfl) rfl rfl rfl ?_
              refine V_to (fun _ _ => rfl) ?_
              obtain rfl := Option.some.inj h80
              obtain rfl := (h81 : Lp.rt _ = _)
              rw [Lp.andThen_rt] at hm
              obtain rfl := Option.some.inj hm
              refine C_ret ?_
              try simp only [↓inBlock_ret, ↓then_ret]
              exact retQ rfl (Res.one Tryd.results6 rfl) ⟨rfl, hK.kp⟩
            · rw [if_neg (nt hc129)] at h80
              refine C_skip_to (fun _ _ => rfl) ?_
              refine C_region ?_
              refine V_y (Y_addI rfl rfl) rfl rfl rfl ?_
              refine V_y (Y_move rfl) rfl rfl rfl ?_
              obtain rfl := Option.some.inj h80
              refine V_end (fun a ha130 => ?_)
              exact ⟨(mapPut s75 x88.name true), hlt83, h81, ⟨A77, ha130.sub ⟨rfl, rfl, rfl, (congrArg (fun z => some (Value.int .i64 z)) (w64_succ hlt83 hn86)), trivial⟩, ⟨hH, hr68⟩⟩⟩
      · refine C_exit (fun a ha131 => ?_)
        exact ⟨(s75, A77), ha131.sub trivial, ⟨(h84 (eq_of_dec hle82 hc87)).symm, hH, hr68⟩⟩
    rintro ⟨s67, A73⟩ w70 ⟨rfl, hH74, hk71⟩ a ha72
    rw [Lp.andThen_fin] at hm
    replace hK := Tr.trans (Dw := Dw) hK hk71
    replace hB := Nat.le_trans hB hk71.ex.size
    replace hA := hk71.new
    replace hH : Hp w.heap.size A73 w70 (obSM (κ := ByteArray) (α := Bool) b57 s67 :: []) := hH74
    refine C_at (n := ⟨62, [], none⟩) (fun _ _ => rfl) ?_ ha72
    refine C_seq ?_
    refine C_region ?_
    refine V_y (Y_assign rfl) rfl rfl rfl ?_
    refine V_to (fun _ _ => rfl) ?_
    obtain rfl := Option.some.inj hm
    refine C_ret ?_
    try simp only [↓inBlock_ret, ↓then_ret]
    exact retQ rfl (Res.one Tryd.results6 rfl) ⟨rfl, hK.kp⟩

def Tryd_strings_Builder_WriteString_lay_ren : Go.Shelf.Ren := ⟨fun | 166 => 8 | 240 => 19 | 276 => 28 | n => n, fun | 0 => 0 | 1 => 1 | 2 => 2 | 3 => 3 | 4 => 4 | 5 => 5 | 6 => 6 | 7 => 7 | 8 => 8 | 9 => 9 | 10 => 10 | 11 => 11 | 12 => 12 | 13 => 13 | 14 => 14 | 15 => 15 | 16 => 16 | 17 => 17 | 18 => 18 | 19 => 19 | 20 => 20 | 21 => 21 | 23 => 72 | 27 => 113 | 28 => 22 | 31 => 53 | 37 => 32 | 40 => 89 | 41 => 98 | 46 => 95 | 47 => 96 | 51 => 93 | 52 => 103 | 53 => 76 | 54 => 77 | 55 => 112 | 63 => 101 | 64 => 104 | 67 => 63 | 70 => 31 | 71 => 33 | 72 => 34 | 73 => 71 | 74 => 35 | 75 => 36 | 76 => 37 | 77 => 38 | 78 => 40 | 80 => 55 | 81 => 119 | 83 => 39 | 84 => 70 | 104 => 58 | 105 => 99 | 106 => 100 | 111 => 74 | 114 => 90 | 115 => 82 | 116 => 83 | 117 => 84 | 118 => 85 | 119 => 108 | 122 => 81 | 123 => 86 | 124 => 87 | 127 => 61 | 137 => 109 | 138 => 110 | 139 => 111 | 155 => 105 | 164 => 68 | 165 => 69 | 166 => 97 | 171 => 75 | 172 => 78 | 173 => 79 | 174 => 80 | 211 => 91 | 212 => 92 | 213 => 94 | 232 => 106 | 233 => 107 | 238 => 114 | 239 => 115 | 240 => 116 | 241 => 117 | 242 => 118 | 243 => 120 | 244 => 121 | 245 => 122 | 246 => 123 | 247 => 124 | 248 => 125 | 249 => 126 | n => n, fun | 1 => 3 | 3 => 6 | 4 => 7 | 17 => 2 | 18 => 4 | 19 => 5 | n => n⟩
theorem Tryd_strings_Builder_WriteString_lay : Go.Proofs.Lays.n166 Tryd.prog Tryd_strings_Builder_WriteString_lay_ren := {
  mixed := by kernel_rfl,
  f166 := Tryd.func8.trans (congrArg some (by kernel_rfl)),
  f240 := Tryd.func19.trans (congrArg some (by kernel_rfl)),
  f276 := Tryd.func28.trans (congrArg some (by kernel_rfl)),
  t0 := Tryd.underlying0,
  a0 := Tryd.isAgg0,
  z0 := Tryd.sizeOf0,
  v0 := Tryd.zeroValue0,
  t3 := Tryd.underlying3,
  a3 := Tryd.isAgg3,
  z3 := Tryd.sizeOf3,
  v3 := Tryd.zeroValue3,
  t4 := Tryd.underlying4,
  a4 := Tryd.isAgg4,
  z4 := Tryd.sizeOf4,
  v4 := Tryd.zeroValue4,
  t9 := Tryd.underlying9,
  a9 := Tryd.isAgg9,
  z9 := Tryd.sizeOf9,
  v9 := Tryd.zeroValue9,
  t20 := Tryd.underlying20,
  a20 := Tryd.isAgg20,
  z20 := Tryd.sizeOf20,
  v20 := Tryd.zeroValue20,
  t37 := Tryd.underlying32,
  a37 := Tryd.isAgg32,
  z37 := Tryd.sizeOf32,
  v37 := Tryd.zeroValue32,
  t70 := Tryd.underlying31,
  a70 := Tryd.isAgg31,
  z70 := Tryd.sizeOf31,
  v70 := Tryd.zeroValue31,
  t72 := Tryd.underlying34,
  a72 := Tryd.isAgg34,
  z72 := Tryd.sizeOf34,
  v72 := Tryd.zeroValue34,
  t75 := Tryd.underlying36,
  a75 := Tryd.isAgg36,
  z75 := Tryd.sizeOf36,
  v75 := Tryd.zeroValue36,
  t164 := Tryd.underlying68,
  a164 := Tryd.isAgg68,
  z164 := Tryd.sizeOf68,
  v164 := Tryd.zeroValue68 }
theorem Tryd_strings_Builder_WriteString_lay_x : Go.Proofs.Builder.Extra Tryd.prog Tryd_strings_Builder_WriteString_lay_ren := {
  sizeBuilder := by kernel_rfl
  liesBuilder := by kernel_rfl
  t5 := Tryd.underlying5
  a5 := Tryd.isAgg5
  z5 := Tryd.sizeOf5
  v5 := Tryd.zeroValue5
  infoByte := by kernel_rfl
  cellsByte := by kernel_rfl
  sizeByte := by kernel_rfl
  neB5 := (by decide : (34 : Nat) ≠ 5) }
theorem strings_Builder_WriteString_c (w : World) {A : Nat → Prop} {B : Nat} (hB : B ≤ w.heap.size) (hA : ∀ b, w.heap.size ≤ b → A b) (b : ByteArray) (b_b : Nat) (s : ByteArray) {L : List Ob} (hH : Hp B A w (obBd 34 5 b_b  b :: L)) {r : Int × Unit × ByteArray} (hm : strings_Builder_WriteString b s = some r) : Ret Tryd.prog 8 #[.pointer (some ⟨b_b, 0, none⟩), .string s] w fun v w' => ∃ A1 : Nat → Prop, v = .tuple #[.int .i64 r.1, .nilIface] ∧ Hp B A1 w' (obBd 34 5 b_b  r.2.2 :: L) ∧ Tr False B A w A1 w' := by
  unfold strings_Builder_WriteString at hm
  split at hm
  case isFalse => cases hm
  rename_i h
  obtain rfl := Option.some.inj hm
  exact Hp.bdWrite (ρ := Tryd_strings_Builder_WriteString_lay_ren) s (fun p v xs h1 h2 => bd_write Tryd_strings_Builder_WriteString_lay Tryd_strings_Builder_WriteString_lay_x b_b p v xs s w h1 h2) hB hA hH h

def Tryd_strconv_Itoa_lay_ren : Go.Shelf.Ren := ⟨fun | 129 => 50 | 171 => 9 | 243 => 20 | 246 => 29 | 283 => 35 | 284 => 36 | 285 => 37 | 286 => 38 | 317 => 49 | 318 => 51 | 319 => 52 | 320 => 53 | 337 => 60 | 338 => 61 | n => n, fun | 0 => 0 | 1 => 1 | 2 => 2 | 3 => 3 | 4 => 4 | 5 => 5 | 6 => 6 | 7 => 7 | 8 => 8 | 9 => 9 | 10 => 10 | 11 => 11 | 12 => 12 | 13 => 13 | 14 => 14 | 15 => 15 | 16 => 16 | 17 => 17 | 18 => 18 | 19 => 19 | 20 => 20 | 21 => 21 | 23 => 72 | 27 => 113 | 28 => 22 | 31 => 53 | 37 => 32 | 40 => 89 | 41 => 98 | 46 => 95 | 47 => 96 | 51 => 93 | 52 => 103 | 53 => 76 | 54 => 77 | 55 => 112 | 63 => 101 | 64 => 104 | 67 => 63 | 70 => 31 | 71 => 33 | 72 => 34 | 73 => 71 | 74 => 35 | 75 => 36 | 76 => 37 | 77 => 38 | 78 => 40 | 80 => 55 | 81 => 119 | 83 => 39 | 84 => 70 | 104 => 58 | 105 => 99 | 106 => 100 | 111 => 74 | 114 => 90 | 115 => 82 | 116 => 83 | 117 => 84 | 118 => 85 | 119 => 108 | 122 => 81 | 123 => 86 | 124 => 87 | 127 => 61 | 137 => 109 | 138 => 110 | 139 => 111 | 155 => 105 | 164 => 68 | 165 => 69 | 166 => 97 | 171 => 75 | 172 => 78 | 173 => 79 | 174 => 80 | 211 => 91 | 212 => 92 | 213 => 94 | 232 => 106 | 233 => 107 | 238 => 114 | 239 => 115 | 240 => 116 | 241 => 117 | 242 => 118 | 243 => 120 | 244 => 121 | 245 => 122 | 246 => 123 | 247 => 124 | 248 => 125 | 249 => 126 | n => n, fun | 1 => 3 | 3 => 6 | 4 => 7 | 17 => 2 | 18 => 4 | 19 => 5 | n => n⟩
theorem Tryd_strconv_Itoa_lay0 : Go.Proofs.Lays.n171 Tryd.prog Tryd_strconv_Itoa_lay_ren := {
  mixed := by kernel_rfl,
  f129 := Tryd.func50.trans (congrArg some (by kernel_rfl)),
  f171 := Tryd.func9.trans (congrArg some (by kernel_rfl)),
  f243 := Tryd.func20.trans (congrArg some (by kernel_rfl)),
  f246 := Tryd.func29.trans (congrArg some (by kernel_rfl)),
  f283 := Tryd.func35.trans (congrArg some (by kernel_rfl)),
  f284 := Tryd.func36.trans (congrArg some (by kernel_rfl)),
  f285 := Tryd.func37.trans (congrArg some (by kernel_rfl)),
  f286 := Tryd.func38.trans (congrArg some (by kernel_rfl)),
  f317 := Tryd.func49.trans (congrArg some (by kernel_rfl)),
  f318 := Tryd.func51.trans (congrArg some (by kernel_rfl)),
  f319 := Tryd.func52.trans (congrArg some (by kernel_rfl)),
  f320 := Tryd.func53.trans (congrArg some (by kernel_rfl)),
  f337 := Tryd.func60.trans (congrArg some (by kernel_rfl)),
  f338 := Tryd.func61.trans (congrArg some (by kernel_rfl)),
  t0 := Tryd.underlying0,
  a0 := Tryd.isAgg0,
  z0 := Tryd.sizeOf0,
  v0 := Tryd.zeroValue0,
  t2 := Tryd.underlying2,
  a2 := Tryd.isAgg2,
  z2 := Tryd.sizeOf2,
  v2 := Tryd.zeroValue2,
  t3 := Tryd.underlying3,
  a3 := Tryd.isAgg3,
  z3 := Tryd.sizeOf3,
  v3 := Tryd.zeroValue3,
  t4 := Tryd.underlying4,
  a4 := Tryd.isAgg4,
  z4 := Tryd.sizeOf4,
  v4 := Tryd.zeroValue4,
  t5 := Tryd.underlying5,
  a5 := Tryd.isAgg5,
  z5 := Tryd.sizeOf5,
  v5 := Tryd.zeroValue5,
  t9 := Tryd.underlying9,
  a9 := Tryd.isAgg9,
  z9 := Tryd.sizeOf9,
  v9 := Tryd.zeroValue9,
  t20 := Tryd.underlying20,
  a20 := Tryd.isAgg20,
  z20 := Tryd.sizeOf20,
  v20 := Tryd.zeroValue20,
  t37 := Tryd.underlying32,
  a37 := Tryd.isAgg32,
  z37 := Tryd.sizeOf32,
  v37 := Tryd.zeroValue32,
  t46 := Tryd.underlying95,
  a46 := Tryd.isAgg95,
  z46 := Tryd.sizeOf95,
  v46 := Tryd.zeroValue95,
  t51 := Tryd.underlying93,
  a51 := Tryd.isAgg93,
  z51 := Tryd.sizeOf93,
  v51 := Tryd.zeroValue93,
  t53 := Tryd.underlying76,
  a53 := Tryd.isAgg76,
  z53 := Tryd.sizeOf76,
  v53 := Tryd.zeroValue76,
  t171 := Tryd.underlying75,
  a171 := Tryd.isAgg75,
  z171 := Tryd.sizeOf75,
  v171 := Tryd.zeroValue75,
  t173 := Tryd.underlying79,
  a173 := Tryd.isAgg79,
  z173 := Tryd.sizeOf79,
  v173 := Tryd.zeroValue79,
  t212 := Tryd.underlying92,
  a212 := Tryd.isAgg92,
  z212 := Tryd.sizeOf92,
  v212 := Tryd.zeroValue92,
  t213 := Tryd.underlying94,
  a213 := Tryd.isAgg94,
  z213 := Tryd.sizeOf94,
  t232 := Tryd.underlying106,
  a232 := Tryd.isAgg106,
  z232 := Tryd.sizeOf106,
  v232 := Tryd.zeroValue106,
  t233 := Tryd.underlying107,
  a233 := Tryd.isAgg107,
  z233 := Tryd.sizeOf107,
  v233 := Tryd.zeroValue107,
  g17 := by kernel_rfl,
  g18 := by kernel_rfl,
  g19 := by kernel_rfl }
theorem Tryd_strconv_Itoa_lay : Go.Proofs.LaysM.n171 Tryd.prog Tryd_strconv_Itoa_lay_ren := { Tryd_strconv_Itoa_lay0 with
  i0 := by kernel_rfl,
  i2 := by kernel_rfl,
  i3 := by kernel_rfl,
  i4 := by kernel_rfl,
  i5 := by kernel_rfl,
  i9 := by kernel_rfl,
  i20 := by kernel_rfl,
  i37 := by kernel_rfl,
  i46 := by kernel_rfl,
  i51 := by kernel_rfl,
  i53 := by kernel_rfl,
  i171 := by kernel_rfl,
  i173 := by kernel_rfl,
  i212 := by kernel_rfl,
  i232 := by kernel_rfl,
  i233 := by kernel_rfl,
  m17 := by kernel_rfl,
  m18 := by kernel_rfl,
  m19 := by kernel_rfl }
theorem strconv_Itoa_c (w : World) {A : Nat → Prop} (hA : ∀ b, w.heap.size ≤ b → A b) (hT : Tb Tryd.prog A w) (n : Int) {r : ByteArray} (hm : strconv_Itoa n = some r) : Ret Tryd.prog 9 #[.int .i64 n] w fun v w' => v = .string r ∧ Kp False w w' := by
  unfold strconv_Itoa at hm
  split at hm
  case isFalse => cases hm
  rename_i h
  obtain rfl := Option.some.inj hm
  refine Calls.mono (Go.Proofs.Any.strconv_Itoa Tryd_strconv_Itoa_lay n h.1 h.2 w hT.1) ?_
  rintro _ w' ⟨rfl, k, os, rfl⟩
  exact ⟨_, rfl, rfl, .of (Go.Lib.below_grow _ w (Nat.le_refl _) k os)⟩

def Tryd_strings_Builder_WriteByte_lay_ren : Go.Shelf.Ren := ⟨fun | 167 => 10 | 240 => 19 | 276 => 28 | n => n, fun | 0 => 0 | 1 => 1 | 2 => 2 | 3 => 3 | 4 => 4 | 5 => 5 | 6 => 6 | 7 => 7 | 8 => 8 | 9 => 9 | 10 => 10 | 11 => 11 | 12 => 12 | 13 => 13 | 14 => 14 | 15 => 15 | 16 => 16 | 17 => 17 | 18 => 18 | 19 => 19 | 20 => 20 | 21 => 21 | 23 => 72 | 27 => 113 | 28 => 22 | 31 => 53 | 37 => 32 | 40 => 89 | 41 => 98 | 46 => 95 | 47 => 96 | 51 => 93 | 52 => 103 | 53 => 76 | 54 => 77 | 55 => 112 | 63 => 101 | 64 => 104 | 67 => 63 | 70 => 31 | 71 => 33 | 72 => 34 | 73 => 71 | 74 => 35 | 75 => 36 | 76 => 37 | 77 => 38 | 78 => 40 | 80 => 55 | 81 => 119 | 83 => 39 | 84 => 70 | 104 => 58 | 105 => 99 | 106 => 100 | 111 => 74 | 114 => 90 | 115 => 82 | 116 => 83 | 117 => 84 | 118 => 85 | 119 => 108 | 122 => 81 | 123 => 86 | 124 => 87 | 127 => 61 | 137 => 109 | 138 => 110 | 139 => 111 | 155 => 105 | 164 => 68 | 165 => 69 | 166 => 97 | 171 => 75 | 172 => 78 | 173 => 79 | 174 => 80 | 211 => 91 | 212 => 92 | 213 => 94 | 232 => 106 | 233 => 107 | 238 => 114 | 239 => 115 | 240 => 116 | 241 => 117 | 242 => 118 | 243 => 120 | 244 => 121 | 245 => 122 | 246 => 123 | 247 => 124 | 248 => 125 | 249 => 126 | n => n, fun | 1 => 3 | 3 => 6 | 4 => 7 | 17 => 2 | 18 => 4 | 19 => 5 | n => n⟩
theorem Tryd_strings_Builder_WriteByte_lay : Go.Proofs.Lays.n167 Tryd.prog Tryd_strings_Builder_WriteByte_lay_ren := {
  mixed := by kernel_rfl,
  f167 := Tryd.func10.trans (congrArg some (by kernel_rfl)),
  f240 := Tryd.func19.trans (congrArg some (by kernel_rfl)),
  f276 := Tryd.func28.trans (congrArg some (by kernel_rfl)),
  t0 := Tryd.underlying0,
  a0 := Tryd.isAgg0,
  z0 := Tryd.sizeOf0,
  v0 := Tryd.zeroValue0,
  t4 := Tryd.underlying4,
  a4 := Tryd.isAgg4,
  z4 := Tryd.sizeOf4,
  v4 := Tryd.zeroValue4,
  t5 := Tryd.underlying5,
  a5 := Tryd.isAgg5,
  z5 := Tryd.sizeOf5,
  v5 := Tryd.zeroValue5,
  t9 := Tryd.underlying9,
  a9 := Tryd.isAgg9,
  z9 := Tryd.sizeOf9,
  v9 := Tryd.zeroValue9,
  t20 := Tryd.underlying20,
  a20 := Tryd.isAgg20,
  z20 := Tryd.sizeOf20,
  v20 := Tryd.zeroValue20,
  t37 := Tryd.underlying32,
  a37 := Tryd.isAgg32,
  z37 := Tryd.sizeOf32,
  v37 := Tryd.zeroValue32,
  t70 := Tryd.underlying31,
  a70 := Tryd.isAgg31,
  z70 := Tryd.sizeOf31,
  v70 := Tryd.zeroValue31,
  t72 := Tryd.underlying34,
  a72 := Tryd.isAgg34,
  z72 := Tryd.sizeOf34,
  v72 := Tryd.zeroValue34,
  t75 := Tryd.underlying36,
  a75 := Tryd.isAgg36,
  z75 := Tryd.sizeOf36,
  v75 := Tryd.zeroValue36,
  t164 := Tryd.underlying68,
  a164 := Tryd.isAgg68,
  z164 := Tryd.sizeOf68,
  v164 := Tryd.zeroValue68 }
theorem Tryd_strings_Builder_WriteByte_lay_x : Go.Proofs.Builder.Extra Tryd.prog Tryd_strings_Builder_WriteByte_lay_ren := {
  sizeBuilder := by kernel_rfl
  liesBuilder := by kernel_rfl
  t5 := Tryd.underlying5
  a5 := Tryd.isAgg5
  z5 := Tryd.sizeOf5
  v5 := Tryd.zeroValue5
  infoByte := by kernel_rfl
  cellsByte := by kernel_rfl
  sizeByte := by kernel_rfl
  neB5 := (by decide : (34 : Nat) ≠ 5) }
theorem strings_Builder_WriteByte_c (w : World) {A : Nat → Prop} {B : Nat} (hB : B ≤ w.heap.size) (hA : ∀ b, w.heap.size ≤ b → A b) (b : ByteArray) (b_b : Nat) (c : UInt8) {L : List Ob} (hH : Hp B A w (obBd 34 5 b_b  b :: L)) {r : Unit × ByteArray} (hm : strings_Builder_WriteByte b c = some r) : Ret Tryd.prog 10 #[.pointer (some ⟨b_b, 0, none⟩), .int .u8 c.toNat] w fun v w' => ∃ A1 : Nat → Prop, v = .nilIface ∧ Hp B A1 w' (obBd 34 5 b_b  r.2 :: L) ∧ Tr False B A w A1 w' := by
  unfold strings_Builder_WriteByte at hm
  split at hm
  case isFalse => cases hm
  rename_i h
  obtain rfl := Option.some.inj hm
  exact Hp.bdByte (ρ := Tryd_strings_Builder_WriteByte_lay_ren) c (fun p v xs h1 h2 => bd_byte Tryd_strings_Builder_WriteByte_lay Tryd_strings_Builder_WriteByte_lay_x b_b p v xs c.toNat w h1 h2) hB hA hH h

set_option maxRecDepth 4000 in
set_option maxHeartbeats 4000000 in
theorem level_kindWords_c (w : World) {A : Nat → Prop} (hA : ∀ b, w.heap.size ≤ b → A b)  {r : (List ByteArray)} (hm : level_kindWords  = some r) : Ret Tryd.prog 21 #[] w fun v w' => ∃ s0, v = s0 ∧ Ownd 9 w w' s0 r ∧ Kp Dw w w' := by
  unfold level_kindWords at hm
  refine enter Tryd.func21 rfl Tryd.ntmps21 rfl ?_
  have hA0 := hA
  have hB := Nat.le_refl w.heap.size
  have hK : Tr Dw w.heap.size A w A w := Tr.refl (Dw := Dw) hA
  have hH : Hp w.heap.size A w [] := Hp.nil
  refine C_seq ?_
  refine C_region ?_
  refine V_y (Y_assign rfl) rfl rfl rfl ?_
  refine V_to (fun _ _ => rfl) ?_
  refine C_seq ?_
  refine C_region ?_
  refine V_buildOwnH (Dw := Dw) (l := ([(⟨#[110, 105, 108]⟩ : ByteArray), (⟨#[102, 108, 97, 103]⟩ : ByteArray), (⟨#[110, 117, 109, 98, 101, 114]⟩ : ByteArray), (⟨#[116, 101, 120, 116]⟩ : ByteArray), (⟨#[99, 104, 111, 105, 99, 101]⟩ : ByteArray), (⟨#[109, 111, 109, 101, 110, 116]⟩ : ByteArray), (⟨#[112, 101, 114, 115, 111, 110]⟩ : ByteArray)] : List ByteArray)) (len := 7) hH Tryd.underlying53 Tryd.sizeOf9 Tryd.zeroValue9 rfl (by with_unfolding_all rfl) (show (7 * 1 : Nat) ≠ 0 by decide) (show (7 * 1 : Nat) ≤ 2 ^ 24 by decide) hB hA ⟨[.string (⟨#[110, 105, 108]⟩ : ByteArray)], _, rfl, rfl, ⟨[.string (⟨#[102, 108, 97, 103]⟩ : ByteArray)], _, rfl, rfl, ⟨[.string (⟨#[110, 117, 109, 98, 101, 114]⟩ : ByteArray)], _, rfl, rfl, ⟨[.string (⟨#[116, 101, 120, 116]⟩ : ByteArray)], _, rfl, rfl, ⟨[.string (⟨#[99, 104, 111, 105, 99, 101]⟩ : ByteArray)], _, rfl, rfl, ⟨[.string (⟨#[109, 111, 109, 101, 110, 116]⟩ : ByteArray)], _, rfl, rfl, ⟨[.string (⟨#[112, 101, 114, 115, 111, 110]⟩ : ByteArray)], _, rfl, rfl, rfl⟩⟩⟩⟩⟩⟩⟩ rfl rfl ?_
  intro v1 w2 A5 hH7 ht6
  replace hK := Tr.trans (Dw := Dw) hK ht6
  replace hB := Nat.le_trans hB ht6.ex.size
  replace hA := ht6.new
  replace hH : Hp w.heap.size A5 w2 (obS (α := ByteArray) 9 v1 ([(⟨#[110, 105, 108]⟩ : ByteArray), (⟨#[102, 108, 97, 103]⟩ : ByteArray), (⟨#[110, 117, 109, 98, 101, 114]⟩ : ByteArray), (⟨#[116, 101, 120, 116]⟩ : ByteArray), (⟨#[99, 104, 111, 105, 99, 101]⟩ : ByteArray), (⟨#[109, 111, 109, 101, 110, 116]⟩ : ByteArray), (⟨#[112, 101, 114, 115, 111, 110]⟩ : ByteArray)] : List ByteArray) :: []) := hH7
  refine V_y (Y_assign rfl) rfl rfl rfl ?_
  refine V_to (fun _ _ => rfl) ?_
  obtain rfl := Option.some.inj hm
  refine C_ret ?_
  try simp only [↓inBlock_ret, ↓then_ret]
  exact retQ rfl (Res.one Tryd.results21 rfl) ⟨v1, rfl, (Hp.ownd hH (i := 0) rfl), hK.kp⟩

set_option maxRecDepth 4000 in
set_option maxHeartbeats 4000000 in
theorem level_testText_c (w : World) {A : Nat → Prop} (hA : ∀ b, w.heap.size ≤ b → A b) (hT : Fz Tryd_FR A w) (t : level_Test) {r : ByteArray} (hm : level_testText t = some r) : Ret Tryd.prog 12 #[.agg #[.int .i64 t.field, .int .i64 t.value.kind, .int .i64 t.value.int, .string t.value.text]] w fun v w' => v = .string r ∧ Kp False w w' := by
  unfold level_testText at hm
  refine enter Tryd.func12 rfl Tryd.ntmps12 rfl ?_
  have hA0 := hA
  have hB := Nat.le_refl w.heap.size
  have hK : Tr False w.heap.size A w A w := Tr.refl (Dw := False) hA
  have hH : Hp w.heap.size A w [] := Hp.nil
  refine C_seq ?_
  refine C_region ?_
  refine V_box rfl rfl ?_
  intro b1 w2 h3
  have hk5 := h3.kp (Dw := False)
  have h4 : El (α := level_Test) A w2 b1 0 t := h3.el hA ⟨[.int .i64 t.field], _, rfl, rfl, ⟨[.int .i64 t.value.kind], _, rfl, rfl, ⟨[.int .i64 t.value.int], _, rfl, rfl, rfl⟩⟩⟩
  have ht6 := Kp.tr (Dw := False) hk5 hA hB
  replace hH := Hp.kp (Dw := False) hH hk5
  replace hK := Tr.trans (Dw := False) hK ht6
  replace hB := Nat.le_trans hB ht6.ex.size
  replace hA := ht6.new
  refine V_y (Y_assign rfl) rfl rfl rfl ?_
  refine V_to (fun _ _ => rfl) ?_
  refine C_seq ?_
  refine C_region_ch (Dw := False) A 13 [(1, 0), (1, 1), (1, 6), (1, 7), (1, 8), (2, 2), (1, 3), (1, 4), (2, 5), (0, 9), (0, 10), (1, 11), (1, 12)] Tryd_mixed (by kernel_rfl) (fun w7 hk8 => ?_)
  have ht9 := Kp.tr (Dw := False) hk8 hA hB
  replace hH := Hp.kp (Dw := False) hH hk8
  replace h4 := El.tr (Dw := False) h4 ht9
  replace hK := Tr.trans (Dw := False) hK ht9
  replace hB := Nat.le_trans hB ht9.ex.size
  replace hA := ht9.new
  refine CH_q2 (Dw := False) rfl ?_
  have h10 := El_level_Test_0 h4
  refine VQ_y (fun w' hw' => Y_fieldAddr Tryd.underlying48 rfl Tryd.sizeOf3 (by decide) rfl) rfl rfl rfl ?_
  refine VQ_CH (Dw := False) ?_
  refine CH_q2 (Dw := False) rfl ?_
  refine VQ_y (fun w' hw' => Y_load (El.int (El.keep h10 (XA.ex hw'))) Tryd.isAgg3 rfl) rfl rfl rfl ?_
  refine VQ_CH (Dw := False) ?_
  refine CH_q2 (Dw := False) rfl ?_
  have h11 := El_level_Test_1 h4
  refine VQ_y (fun w' hw' => Y_fieldAddr Tryd.underlying48 rfl Tryd.sizeOf46 (by decide) rfl) rfl rfl rfl ?_
  refine VQ_CH (Dw := False) ?_
  refine CH_q2 (Dw := False) rfl ?_
  have h12 := El_api_Value_0 h11
  refine VQ_y (fun w' hw' => Y_fieldAddr Tryd.underlying46 rfl Tryd.sizeOf3 (by decide) rfl) rfl rfl rfl ?_
  refine VQ_CH (Dw := False) ?_
  refine CH_q2 (Dw := False) rfl ?_
  refine VQ_y (fun w' hw' => Y_load (El.int (El.keep h12 (XA.ex hw'))) Tryd.isAgg3 rfl) rfl rfl rfl ?_
  refine VQ_CH (Dw := False) ?_
  refine CH_l1 (Dw := False) (k := 0) rfl ?_
  obtain ⟨x13, hx13, hm⟩ := Option.bind_eq_some_iff.1 hm
  refine V_call Tryd.call9 rfl rfl rfl rfl (strconv_Itoa_c w7 hA ((Fz.tr (Dw := False) hT hK)).1 t.field hx13) ?_
  rintro _ w14 ⟨rfl, hk15⟩
  have ht16 := Kp.tr (Dw := False) hk15 hA hB
  replace hH := Hp.kp (Dw := False) hH hk15
  replace h4 := El.tr (Dw := False) h4 ht16
  replace h10 := El.tr (Dw := False) h10 ht16
  replace h11 := El.tr (Dw := False) h11 ht16
  replace h12 := El.tr (Dw := False) h12 ht16
  replace hK := Tr.trans (Dw := False) hK ht16
  replace hB := Nat.le_trans hB ht16.ex.size
  replace hA := ht16.new
  refine V_CH (Dw := False) (hk15) ?_
  refine CH_q2 (Dw := False) rfl ?_
  obtain ⟨x17, hx17, hm⟩ := Option.bind_eq_some_iff.1 hm
  refine VQ_y (fun w' hw' => Y_sadd hx17 rfl rfl) rfl rfl rfl ?_
  refine VQ_CH (Dw := False) ?_
  refine CH_q2 (Dw := False) rfl ?_
  obtain ⟨x18, hx18, hm⟩ := Option.bind_eq_some_iff.1 hm
  refine VQ_y (fun w' hw' => Y_sadd hx18 rfl rfl) rfl rfl rfl ?_
  refine VQ_CH (Dw := False) ?_
  refine CH_l1 (Dw := False) (k := 0) rfl ?_
  obtain ⟨x19, hx19, hm⟩ := Option.bind_eq_some_iff.1 hm
  refine V_call Tryd.call21 rfl rfl rfl rfl (level_kindWords_c (Dw := False) w14 hA hx19) ?_
  rintro v20 w22 ⟨_, rfl, h21, hk23⟩
  obtain ⟨A24, ht25, hH26⟩ := Hp.addOwnd (Dw := False) hH hB hA hk23 h21
  replace h4 := El.tr (Dw := False) h4 ht25
  replace h10 := El.tr (Dw := False) h10 ht25
  replace h11 := El.tr (Dw := False) h11 ht25
  replace h12 := El.tr (Dw := False) h12 ht25
  replace hK := Tr.trans (Dw := False) hK ht25
  replace hB := Nat.le_trans hB ht25.ex.size
  replace hA := ht25.new
  replace hH : Hp w.heap.size A24 w22 (obS (α := ByteArray) 9 v20 x19 :: []) := hH26
  refine V_CH (Dw := False) (hk23) ?_
  refine CH_q1 (Dw := False) rfl ?_
  obtain ⟨x27, hx27, hm⟩ := Option.bind_eq_some_iff.1 hm
  refine VQ_indexAddrH (α := ByteArray) (e := 9) (v := v20) (l := x19) hH (i := 0) rfl hx27 Tryd.underlying53 Tryd.sizeOf9 rfl rfl rfl ?_
  intro b28 o29 h30 hl31
  refine VQ_CH (Dw := False) ?_
  refine CH_q1 (Dw := False) rfl ?_
  refine VQ_y (fun w' hw' => Y_load (El.str (El.kp (Dw := False) h30 hw')) Tryd.isAgg9 rfl) rfl rfl rfl ?_
  refine VQ_CH (Dw := False) ?_
  refine CH_q2 (Dw := False) rfl ?_
  obtain ⟨x32, hx32, hm⟩ := Option.bind_eq_some_iff.1 hm
  refine VQ_y (fun w' hw' => Y_sadd hx32 rfl rfl) rfl rfl rfl ?_
  refine VQ_CH (Dw := False) ?_
  refine CH_q2 (Dw := False) rfl ?_
  refine VQ_y (fun w' hw' => Y_assign rfl) rfl rfl rfl ?_
  refine VQ_CH (Dw := False) ?_
  refine CH_tail (Dw := False) ?_
  show V _ _ _ _ [] _ _
  refine V_to (fun _ _ => rfl) ?_
  refine C_seq ?_
  refine C_seq ?_
  refine C_region ?_
  have h33 := El_level_Test_1 h4
  refine V_y (Y_fieldAddr Tryd.underlying48 rfl Tryd.sizeOf46 (by decide) rfl) rfl rfl rfl ?_
  have h34 := El_api_Value_0 h33
  refine V_y (Y_fieldAddr Tryd.underlying46 rfl Tryd.sizeOf3 (by decide) rfl) rfl rfl rfl ?_
  refine V_y (Y_load (El.int h34) Tryd.isAgg3 rfl) rfl rfl rfl ?_
  refine V_to (fun _ _ => rfl) ?_
  refine C_block ?_
  refine C_seq ?_
  refine C_region ?_
  refine V_y (Y_eql rfl rfl) rfl rfl rfl ?_
  refine V_y (Y_assign rfl) rfl rfl rfl ?_
  refine V_to (fun _ _ => rfl) ?_
  refine C_cond rfl (fun hc35 => ?_) (fun hc35 => ?_)
  · rw [if_pos hc35] at hm
    refine C_seq ?_
    refine C_region ?_
    refine V_y (Y_move rfl) rfl rfl rfl ?_
    refine V_y (Y_assign rfl) rfl rfl rfl ?_
    refine V_to (fun _ _ => rfl) ?_
    obtain rfl := Option.some.inj hm
    refine C_ret ?_
    try simp only [↓inBlock_ret, ↓then_ret]
    exact retQ rfl (Res.one Tryd.results12 rfl) ⟨rfl, hK.kp⟩
  · rw [if_neg (nt hc35)] at hm
    refine C_seq ?_
    refine C_region ?_
    refine V_y (Y_eql rfl rfl) rfl rfl rfl ?_
    refine V_y (Y_assign rfl) rfl rfl rfl ?_
    refine V_to (fun _ _ => rfl) ?_
    refine C_cond rfl (fun hc36 => ?_) (fun hc36 => ?_)
    · rw [if_pos hc36] at hm
      refine C_seq ?_
      refine C_region ?_
      refine V_y (Y_move rfl) rfl rfl rfl ?_
      obtain ⟨x37, hx37, hm⟩ := Option.bind_eq_some_iff.1 hm
      refine V_y (Y_sadd hx37 rfl rfl) rfl rfl rfl ?_
      have h38 := El_level_Test_1 h4
      refine V_y (Y_fieldAddr Tryd.underlying48 rfl Tryd.sizeOf46 (by decide) rfl) rfl rfl rfl ?_
      have h39 := El_api_Value_2 h38
      refine V_y (Y_fieldAddr Tryd.underlying46 rfl Tryd.sizeOf9 (by decide) rfl) rfl rfl rfl ?_
      refine V_y (Y_load (El.str h39) Tryd.isAgg9 rfl) rfl rfl rfl ?_
      obtain ⟨x40, hx40, hm⟩ := Option.bind_eq_some_iff.1 hm
      refine V_y (Y_sadd hx40 rfl rfl) rfl rfl rfl ?_
      refine V_y (Y_assign rfl) rfl rfl rfl ?_
      refine V_to (fun _ _ => rfl) ?_
      obtain rfl := Option.some.inj hm
      refine C_ret ?_
      try simp only [↓inBlock_ret, ↓then_ret]
      exact retQ rfl (Res.one Tryd.results12 rfl) ⟨rfl, hK.kp⟩
    · rw [if_neg (nt hc36)] at hm
      refine C_skip_to (fun _ _ => rfl) ?_
      refine C_seq ?_
      refine C_region ?_
      refine V_y (Y_move rfl) rfl rfl rfl ?_
      obtain ⟨x41, hx41, hm⟩ := Option.bind_eq_some_iff.1 hm
      refine V_y (Y_sadd hx41 rfl rfl) rfl rfl rfl ?_
      have h42 := El_level_Test_1 h4
      refine V_y (Y_fieldAddr Tryd.underlying48 rfl Tryd.sizeOf46 (by decide) rfl) rfl rfl rfl ?_
      have h43 := El_api_Value_1 h42
      refine V_y (Y_fieldAddr Tryd.underlying46 rfl Tryd.sizeOf3 (by decide) rfl) rfl rfl rfl ?_
      refine V_y (Y_load (El.int h43) Tryd.isAgg3 rfl) rfl rfl rfl ?_
      obtain ⟨x44, hx44, hm⟩ := Option.bind_eq_some_iff.1 hm
      refine V_call Tryd.call9 rfl rfl rfl rfl (strconv_Itoa_c w22 hA ((Fz.tr (Dw := False) hT hK)).1 t.value.int hx44) ?_
      rintro _ w45 ⟨rfl, hk46⟩
      have ht47 := Kp.tr (Dw := False) hk46 hA hB
      replace hH := Hp.kp (Dw := False) hH hk46
      replace h4 := El.tr (Dw := False) h4 ht47
      replace h42 := El.tr (Dw := False) h42 ht47
      replace h43 := El.tr (Dw := False) h43 ht47
      replace hK := Tr.trans (Dw := False) hK ht47
      replace hB := Nat.le_trans hB ht47.ex.size
      replace hA := ht47.new
      obtain ⟨x48, hx48, hm⟩ := Option.bind_eq_some_iff.1 hm
      refine V_y (Y_sadd hx48 rfl rfl) rfl rfl rfl ?_
      refine V_y (Y_assign rfl) rfl rfl rfl ?_
      refine V_to (fun _ _ => rfl) ?_
      obtain rfl := Option.some.inj hm
      refine C_ret ?_
      try simp only [↓inBlock_ret, ↓then_ret]
      exact retQ rfl (Res.one Tryd.results12 rfl) ⟨rfl, hK.kp⟩

set_option maxRecDepth 4000 in
set_option maxHeartbeats 4000000 in
theorem level_targetWords_c (w : World) {A : Nat → Prop} (hA : ∀ b, w.heap.size ≤ b → A b)  {r : (List ByteArray)} (hm : level_targetWords  = some r) : Ret Tryd.prog 13 #[] w fun v w' => ∃ s0, v = s0 ∧ Ownd 9 w w' s0 r ∧ Kp Dw w w' := by
  unfold level_targetWords at hm
  refine enter Tryd.func13 rfl Tryd.ntmps13 rfl ?_
  have hA0 := hA
  have hB := Nat.le_refl w.heap.size
  have hK : Tr Dw w.heap.size A w A w := Tr.refl (Dw := Dw) hA
  have hH : Hp w.heap.size A w [] := Hp.nil
  refine C_seq ?_
  refine C_region ?_
  refine V_y (Y_assign rfl) rfl rfl rfl ?_
  refine V_to (fun _ _ => rfl) ?_
  refine C_seq ?_
  refine C_region ?_
  refine V_buildOwnH (Dw := Dw) (l := ([(⟨#[102, 105, 114, 115, 116]⟩ : ByteArray), (⟨#[114, 101, 112, 108, 121]⟩ : ByteArray), (⟨#[115, 111, 108, 118, 101]⟩ : ByteArray)] : List ByteArray)) (len := 3) hH Tryd.underlying53 Tryd.sizeOf9 Tryd.zeroValue9 rfl (by with_unfolding_all rfl) (show (3 * 1 : Nat) ≠ 0 by decide) (show (3 * 1 : Nat) ≤ 2 ^ 24 by decide) hB hA ⟨[.string (⟨#[102, 105, 114, 115, 116]⟩ : ByteArray)], _, rfl, rfl, ⟨[.string (⟨#[114, 101, 112, 108, 121]⟩ : ByteArray)], _, rfl, rfl, ⟨[.string (⟨#[115, 111, 108, 118, 101]⟩ : ByteArray)], _, rfl, rfl, rfl⟩⟩⟩ rfl rfl ?_
  intro v1 w2 A5 hH7 ht6
  replace hK := Tr.trans (Dw := Dw) hK ht6
  replace hB := Nat.le_trans hB ht6.ex.size
  replace hA := ht6.new
  replace hH : Hp w.heap.size A5 w2 (obS (α := ByteArray) 9 v1 ([(⟨#[102, 105, 114, 115, 116]⟩ : ByteArray), (⟨#[114, 101, 112, 108, 121]⟩ : ByteArray), (⟨#[115, 111, 108, 118, 101]⟩ : ByteArray)] : List ByteArray) :: []) := hH7
  refine V_y (Y_assign rfl) rfl rfl rfl ?_
  refine V_to (fun _ _ => rfl) ?_
  obtain rfl := Option.some.inj hm
  refine C_ret ?_
  try simp only [↓inBlock_ret, ↓then_ret]
  exact retQ rfl (Res.one Tryd.results13 rfl) ⟨v1, rfl, (Hp.ownd hH (i := 0) rfl), hK.kp⟩

def Tryd_strings_Builder_String_lay_ren : Go.Shelf.Ren := ⟨fun | 169 => 14 | n => n, fun | 0 => 0 | 1 => 1 | 2 => 2 | 3 => 3 | 4 => 4 | 5 => 5 | 6 => 6 | 7 => 7 | 8 => 8 | 9 => 9 | 10 => 10 | 11 => 11 | 12 => 12 | 13 => 13 | 14 => 14 | 15 => 15 | 16 => 16 | 17 => 17 | 18 => 18 | 19 => 19 | 20 => 20 | 21 => 21 | 23 => 72 | 27 => 113 | 28 => 22 | 31 => 53 | 37 => 32 | 40 => 89 | 41 => 98 | 46 => 95 | 47 => 96 | 51 => 93 | 52 => 103 | 53 => 76 | 54 => 77 | 55 => 112 | 63 => 101 | 64 => 104 | 67 => 63 | 70 => 31 | 71 => 33 | 72 => 34 | 73 => 71 | 74 => 35 | 75 => 36 | 76 => 37 | 77 => 38 | 78 => 40 | 80 => 55 | 81 => 119 | 83 => 39 | 84 => 70 | 104 => 58 | 105 => 99 | 106 => 100 | 111 => 74 | 114 => 90 | 115 => 82 | 116 => 83 | 117 => 84 | 118 => 85 | 119 => 108 | 122 => 81 | 123 => 86 | 124 => 87 | 127 => 61 | 137 => 109 | 138 => 110 | 139 => 111 | 155 => 105 | 164 => 68 | 165 => 69 | 166 => 97 | 171 => 75 | 172 => 78 | 173 => 79 | 174 => 80 | 211 => 91 | 212 => 92 | 213 => 94 | 232 => 106 | 233 => 107 | 238 => 114 | 239 => 115 | 240 => 116 | 241 => 117 | 242 => 118 | 243 => 120 | 244 => 121 | 245 => 122 | 246 => 123 | 247 => 124 | 248 => 125 | 249 => 126 | n => n, fun | 1 => 3 | 3 => 6 | 4 => 7 | 17 => 2 | 18 => 4 | 19 => 5 | n => n⟩
theorem Tryd_strings_Builder_String_lay : Go.Proofs.Lays.n169 Tryd.prog Tryd_strings_Builder_String_lay_ren := {
  mixed := by kernel_rfl,
  f169 := Tryd.func14.trans (congrArg some (by kernel_rfl)),
  t0 := Tryd.underlying0,
  a0 := Tryd.isAgg0,
  z0 := Tryd.sizeOf0,
  v0 := Tryd.zeroValue0,
  t3 := Tryd.underlying3,
  a3 := Tryd.isAgg3,
  z3 := Tryd.sizeOf3,
  v3 := Tryd.zeroValue3,
  t9 := Tryd.underlying9,
  a9 := Tryd.isAgg9,
  z9 := Tryd.sizeOf9,
  v9 := Tryd.zeroValue9,
  t37 := Tryd.underlying32,
  a37 := Tryd.isAgg32,
  z37 := Tryd.sizeOf32,
  v37 := Tryd.zeroValue32,
  t70 := Tryd.underlying31,
  a70 := Tryd.isAgg31,
  z70 := Tryd.sizeOf31,
  v70 := Tryd.zeroValue31,
  t72 := Tryd.underlying34,
  a72 := Tryd.isAgg34,
  z72 := Tryd.sizeOf34,
  v72 := Tryd.zeroValue34,
  t127 := Tryd.underlying61,
  a127 := Tryd.isAgg61,
  z127 := Tryd.sizeOf61,
  v127 := Tryd.zeroValue61 }
theorem Tryd_strings_Builder_String_lay_x : Go.Proofs.Builder.Extra Tryd.prog Tryd_strings_Builder_String_lay_ren := {
  sizeBuilder := by kernel_rfl
  liesBuilder := by kernel_rfl
  t5 := Tryd.underlying5
  a5 := Tryd.isAgg5
  z5 := Tryd.sizeOf5
  v5 := Tryd.zeroValue5
  infoByte := by kernel_rfl
  cellsByte := by kernel_rfl
  sizeByte := by kernel_rfl
  neB5 := (by decide : (34 : Nat) ≠ 5) }
theorem strings_Builder_String_c (w : World) {A : Nat → Prop} {B : Nat} (hB : B ≤ w.heap.size) (hA : ∀ b, w.heap.size ≤ b → A b) (b : ByteArray) (b_b : Nat) {L : List Ob} (hH : Hp B A w (obBd 34 5 b_b  b :: L)) {r : ByteArray} (hm : strings_Builder_String b = some r) : Ret Tryd.prog 14 #[.pointer (some ⟨b_b, 0, none⟩)] w fun v w' => ∃ A1 : Nat → Prop, v = .string r ∧ Hp B A1 w' (obBd 34 5 b_b  b :: L) ∧ Tr False B A w A1 w' := by
  unfold strings_Builder_String at hm
  obtain rfl := Option.some.inj hm
  exact Hp.bdString (ρ := Tryd_strings_Builder_String_lay_ren) (fun p v l h1 => bd_string Tryd_strings_Builder_String_lay Tryd_strings_Builder_String_lay_x b_b p v l w h1) hB hA hH

end Go.Proofs.YtpkkbbcflmbjeaaDoor.W
