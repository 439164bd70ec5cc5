/-
  Written by program (gen.py) from the IR of the dump: each function computes its model.
-/
import Derived.Test.YtcokjipcmpfgbaaDoorProg
import Derived.Test.YtcokjipcmpfgbaaDoorGe
import Derived.Test.YtcokjipcmpfgbaaDoorLevelChoosesM
import Derived.KernelRfl
import Derived.Shelf.Strings.SlTrimAscii
import Derived.Test.YtcokjipcmpfgbaaDoorHa
import Derived.Test.YtcokjipcmpfgbaaDoorGg
import Derived.Test.YtcokjipcmpfgbaaDoorGv
namespace Go.Proofs.YtcokjipcmpfgbaaDoor.W
open Go Go.RowKit Go.Pu Go.Gw Go.Proofs Go.Proofs.YtcokjipcmpfgbaaDoor.M
set_option linter.unusedVariables false
set_option linter.unusedSimpArgs false

theorem Tryd_places95 : ∀ fs, Tryd.prog.underlying 95 = some (.struct fs) → ∀ w : World, (Array.mapM (fun (f : Field) => do pure (f.offset, ← Go.sizeOf f.type)) fs).run Tryd.prog w = .ok #[(0, 1), (1, 1), (2, 1)] w := by
  intro fs h w
  rw [Tryd.underlying95] at h
  cases h
  kernel_rfl
theorem Tryd_eqt95_10000 (a0 : Int) (a1 : Int) (a2 : ByteArray) (b0 : Int) (b1 : Int) (b2 : ByteArray) (w : World) : (Op.equalIn 10000 95 (.agg #[.int .i64 a0, .int .i64 a1, .string a2]) (.agg #[.int .i64 b0, .int .i64 b1, .string b2])).run Tryd.prog w = .ok (a0 == b0 && (a1 == b1 && (strEq a2 b2))) w := by
  refine (run_equalIn_struct w 9999 95 _ _ (by kernel_rfl) (by kernel_rfl)).trans ?_
  rw [show Tryd.prog.fieldsOf 95 = _ from by unfold Program.fieldsOf; rw [Tryd.underlying95]]
  cases h0 : (a0 == b0) <;> cases h1 : (a1 == b1) <;> cases h2 : (strEq a2 b2) <;> simp_all [Op.eqFields, part, strEq, Tryd.isAgg3, Tryd.isAgg9, run_equalIn_int _ _ _ _ _ _ _ Tryd.underlying3, run_equalIn_string _ _ _ _ _ Tryd.underlying9]
theorem Tryd_eqg95 : Tryd.prog.eqGuardType Tryd.prog.depth 95 = false := by kernel_rfl
theorem Tryd_mixed : Tryd.prog.follows .mixedOrders = true := by kernel_rfl

instance : GoT api_Value := GoT.of (β := Int × Int × ByteArray) fun x => (x.kind, x.int, x.text)

instance : Flat api_Value := ⟨fun {A w A1 w1 cs x} h => Flat.flat (α := Int × Int × ByteArray) (x := (x.kind, x.int, x.text)) (A := A) (w := w) h⟩

theorem El_api_Value_ {A : Nat → Prop} {w : World} {b off : Nat} {x : api_Value} (h : El A w b off x) : El (α := Int × Int × ByteArray) A w b off (x.kind, x.int, x.text) := h

theorem El_api_Value_0 {A : Nat → Prop} {w : World} {b off : Nat} {x : api_Value} (h : El A w b off x) : El A w b (off + 0) x.kind := El.fst (El_api_Value_ h)

theorem El_api_Value_1 {A : Nat → Prop} {w : World} {b off : Nat} {x : api_Value} (h : El A w b off x) : El A w b (off + 1) x.int := El.fst (El.snd (El_api_Value_ h))

theorem El_api_Value_2 {A : Nat → Prop} {w : World} {b off : Nat} {x : api_Value} (h : El A w b off x) : El A w b (off + 2) x.text := El.snd (El.snd (El_api_Value_ h))

theorem El_api_Value {A : Nat → Prop} {w : World} {b off : Nat} {x : api_Value} (h : El A w b off x) : At w b off [.int .i64 x.kind, .int .i64 x.int, .string x.text] ∧ True := by
  obtain ⟨h1, h2, cs, h3, h4⟩ := h
  obtain ⟨_, _, rfl, rfl, ⟨_, _, rfl, rfl, rfl⟩⟩ := h3
  exact ⟨h4, trivial⟩

instance : GoT level_Test := GoT.of (β := Int × api_Value) fun x => (x.field, x.value)

instance : Flat level_Test := ⟨fun {A w A1 w1 cs x} h => Flat.flat (α := Int × api_Value) (x := (x.field, x.value)) (A := A) (w := w) h⟩

theorem El_level_Test_ {A : Nat → Prop} {w : World} {b off : Nat} {x : level_Test} (h : El A w b off x) : El (α := Int × api_Value) A w b off (x.field, x.value) := h

theorem El_level_Test_0 {A : Nat → Prop} {w : World} {b off : Nat} {x : level_Test} (h : El A w b off x) : El A w b (off + 0) x.field := El.fst (El_level_Test_ h)

theorem El_level_Test_1 {A : Nat → Prop} {w : World} {b off : Nat} {x : level_Test} (h : El A w b off x) : El A w b (off + 1) x.value := El.snd (El_level_Test_ h)

theorem El_level_Test {A : Nat → Prop} {w : World} {b off : Nat} {x : level_Test} (h : El A w b off x) : At w b off [.int .i64 x.field, .int .i64 x.value.kind, .int .i64 x.value.int, .string x.value.text] ∧ True := by
  obtain ⟨h1, h2, cs, h3, h4⟩ := h
  obtain ⟨_, _, rfl, rfl, ⟨_, _, rfl, rfl, ⟨_, _, rfl, rfl, rfl⟩⟩⟩ := h3
  exact ⟨h4, trivial⟩

instance : GoT level_Target := GoT.of (β := Int × Int × Int) fun x => (x.kind, x.minutes, x.calendar)

instance : Flat level_Target := ⟨fun {A w A1 w1 cs x} h => Flat.flat (α := Int × Int × Int) (x := (x.kind, x.minutes, x.calendar)) (A := A) (w := w) h⟩

theorem El_level_Target_ {A : Nat → Prop} {w : World} {b off : Nat} {x : level_Target} (h : El A w b off x) : El (α := Int × Int × Int) A w b off (x.kind, x.minutes, x.calendar) := h

theorem El_level_Target_0 {A : Nat → Prop} {w : World} {b off : Nat} {x : level_Target} (h : El A w b off x) : El A w b (off + 0) x.kind := El.fst (El_level_Target_ h)

theorem El_level_Target_1 {A : Nat → Prop} {w : World} {b off : Nat} {x : level_Target} (h : El A w b off x) : El A w b (off + 1) x.minutes := El.fst (El.snd (El_level_Target_ h))

theorem El_level_Target_2 {A : Nat → Prop} {w : World} {b off : Nat} {x : level_Target} (h : El A w b off x) : El A w b (off + 2) x.calendar := El.snd (El.snd (El_level_Target_ h))

theorem El_level_Target {A : Nat → Prop} {w : World} {b off : Nat} {x : level_Target} (h : El A w b off x) : At w b off [.int .i64 x.kind, .int .i64 x.minutes, .int .i64 x.calendar] ∧ True := by
  obtain ⟨h1, h2, cs, h3, h4⟩ := h
  obtain ⟨_, _, rfl, rfl, ⟨_, _, rfl, rfl, rfl⟩⟩ := h3
  exact ⟨h4, trivial⟩

instance : GoT level_Level := GoT.of (β := ByteArray × (List level_Test) × (List level_Target)) fun x => (x.name, x.tests, x.targets)

theorem El_level_Level_ {A : Nat → Prop} {w : World} {b off : Nat} {x : level_Level} (h : El A w b off x) : El (α := ByteArray × (List level_Test) × (List level_Target)) A w b off (x.name, x.tests, x.targets) := h

theorem El_level_Level_0 {A : Nat → Prop} {w : World} {b off : Nat} {x : level_Level} (h : El A w b off x) : El A w b (off + 0) x.name := El.fst (El_level_Level_ h)

theorem El_level_Level_1 {A : Nat → Prop} {w : World} {b off : Nat} {x : level_Level} (h : El A w b off x) : El A w b (off + 1) x.tests := El.fst (El.snd (El_level_Level_ h))

theorem El_level_Level_2 {A : Nat → Prop} {w : World} {b off : Nat} {x : level_Level} (h : El A w b off x) : El A w b (off + 2) x.targets := El.snd (El.snd (El_level_Level_ h))

theorem El_level_Level {A : Nat → Prop} {w : World} {b off : Nat} {x : level_Level} (h : El A w b off x) : ∃ v1 v3, At w b off [.string x.name, v1, v3] ∧ Sl A w v1 x.tests ∧ Sl A w v3 x.targets := by
  obtain ⟨h1, h2, cs, h3, h4⟩ := h
  obtain ⟨_, _, rfl, rfl, ⟨_, _, rfl, ⟨u1, rfl, g1⟩, ⟨u2, rfl, g2⟩⟩⟩ := h3
  exact ⟨u1, u2, h4, g1, g2⟩

instance : GoT level_Policy := GoT.of (β := (List Int) × (List level_Level)) fun x => (x.pauses, x.levels)

theorem El_level_Policy_ {A : Nat → Prop} {w : World} {b off : Nat} {x : level_Policy} (h : El A w b off x) : El (α := (List Int) × (List level_Level)) A w b off (x.pauses, x.levels) := h

theorem El_level_Policy_0 {A : Nat → Prop} {w : World} {b off : Nat} {x : level_Policy} (h : El A w b off x) : El A w b (off + 0) x.pauses := El.fst (El_level_Policy_ h)

theorem El_level_Policy_1 {A : Nat → Prop} {w : World} {b off : Nat} {x : level_Policy} (h : El A w b off x) : El A w b (off + 1) x.levels := El.snd (El_level_Policy_ h)

theorem El_level_Policy {A : Nat → Prop} {w : World} {b off : Nat} {x : level_Policy} (h : El A w b off x) : ∃ v1 v3, At w b off [v1, v3] ∧ Sl A w v1 x.pauses ∧ Sl A w v3 x.levels := by
  obtain ⟨h1, h2, cs, h3, h4⟩ := h
  obtain ⟨_, _, rfl, ⟨u1, rfl, g1⟩, ⟨u2, rfl, g2⟩⟩ := h3
  exact ⟨u1, u2, h4, g1, g2⟩

def Tryd_contains_lay_ren : Go.Shelf.Ren := ⟨fun | 15 => 117 | 17 => 98 | 20 => 143 | n => n, fun | 0 => 0 | 1 => 1 | 2 => 2 | 3 => 3 | 4 => 4 | 5 => 5 | 6 => 6 | 7 => 7 | 8 => 8 | 9 => 9 | 10 => 10 | 11 => 11 | 12 => 12 | 13 => 13 | 14 => 14 | 15 => 15 | 16 => 16 | 17 => 17 | 18 => 18 | 19 => 19 | 20 => 20 | 21 => 21 | 23 => 136 | 26 => 151 | 27 => 177 | 28 => 135 | 29 => 191 | 30 => 180 | 31 => 152 | 32 => 153 | 33 => 190 | 34 => 192 | 35 => 144 | 36 => 193 | 37 => 194 | 38 => 195 | 39 => 102 | 40 => 202 | 41 => 203 | 42 => 204 | 43 => 205 | 44 => 206 | 45 => 207 | 46 => 163 | 47 => 208 | 48 => 209 | 49 => 210 | 50 => 128 | 51 => 211 | 52 => 212 | 53 => 213 | 54 => 214 | 55 => 145 | n => n, fun | 0 => 4 | 1 => 5 | n => n⟩
theorem Tryd_contains_lay : Go.Proofs.LaysGw.n17 Tryd.prog Tryd_contains_lay_ren := {
  mixed := by kernel_rfl,
  f15 := Tryd.func117.trans (congrArg some (by kernel_rfl)),
  f17 := Tryd.func98.trans (congrArg some (by kernel_rfl)),
  f20 := Tryd.func143.trans (congrArg some (by kernel_rfl)),
  t0 := Tryd.underlying0,
  a0 := Tryd.isAgg0,
  z0 := Tryd.sizeOf0,
  v0 := Tryd.zeroValue0,
  i0 := by kernel_rfl,
  t3 := Tryd.underlying3,
  a3 := Tryd.isAgg3,
  z3 := Tryd.sizeOf3,
  v3 := Tryd.zeroValue3,
  i3 := by kernel_rfl,
  t4 := Tryd.underlying4,
  a4 := Tryd.isAgg4,
  z4 := Tryd.sizeOf4,
  v4 := Tryd.zeroValue4,
  i4 := by kernel_rfl,
  t9 := Tryd.underlying9,
  a9 := Tryd.isAgg9,
  z9 := Tryd.sizeOf9,
  v9 := Tryd.zeroValue9,
  i9 := by kernel_rfl,
  t21 := Tryd.underlying21,
  a21 := Tryd.isAgg21,
  z21 := Tryd.sizeOf21,
  v21 := Tryd.zeroValue21,
  i21 := by kernel_rfl,
  t23 := Tryd.underlying136,
  a23 := Tryd.isAgg136,
  z23 := Tryd.sizeOf136,
  v23 := Tryd.zeroValue136,
  i23 := by kernel_rfl }

set_option maxRecDepth 4000 in
set_option maxHeartbeats 4000000 in
theorem level_within_c (w : World) (n : Int) (low : Int) (high : Int) : Ret Tryd.prog 50 #[.int .i64 n, .int .i64 low, .int .i64 high] w fun v w' => v = .bool (level_within n low high) ∧ w = w' := by
  generalize hm : level_within n low high = r
  unfold level_within at hm
  refine enter Tryd.func50 rfl Tryd.ntmps50 rfl ?_
  refine C_seq ?_
  refine C_region ?_
  refine V_y (Y_assign rfl) rfl rfl rfl ?_
  refine V_to (fun _ _ => rfl) ?_
  refine C_seq ?_
  refine C_region ?_
  refine V_y (Y_move rfl) rfl rfl rfl ?_
  refine V_y (Y_move rfl) rfl rfl rfl ?_
  refine V_y (Y_geq rfl rfl) rfl rfl rfl ?_
  refine V_y (Y_move rfl) rfl rfl rfl ?_
  refine V_cut 4 (fun _ : Unit => [(14, .bool ((decide (low ≤ n)) && (decide (n ≤ high))))]) (fun _ w' => w = w') ?_ ?_
  · simp only [List.take, List.drop]
    rcases Bool.eq_false_or_eq_true (decide (low ≤ n)) with hc1 | hc1
    · refine V_ge rfl rfl rfl hc1 ?_
      refine V_y (Y_move rfl) rfl rfl rfl ?_
      refine V_ge rfl rfl rfl hc1 ?_
      refine V_y (Y_move rfl) rfl rfl rfl ?_
      refine V_ge rfl rfl rfl hc1 ?_
      refine V_y (Y_leq rfl rfl) rfl rfl rfl ?_
      refine V_y (Y_pick_te rfl hc1 rfl) rfl rfl rfl ?_
      exact V_end fun a ha => ⟨(), ha.sub ⟨(by rw [hc1]; rfl), trivial⟩, rfl⟩
    · refine V_gn rfl rfl rfl hc1 rfl rfl rfl ?_
      refine V_gn rfl rfl rfl hc1 rfl rfl rfl ?_
      refine V_gn rfl rfl rfl hc1 rfl rfl rfl ?_
      refine V_y (Y_pick_fe rfl hc1 rfl) rfl rfl rfl ?_
      exact V_end fun a ha => ⟨(), ha.sub ⟨(by rw [hc1]; rfl), trivial⟩, rfl⟩
  simp only [List.take, List.drop]
  rintro _ _ rfl
  refine V_y (Y_assign rfl) rfl rfl rfl ?_
  refine V_to (fun _ _ => rfl) ?_
  obtain rfl := hm
  refine C_ret ?_
  try simp only [↓inBlock_ret, ↓then_ret]
  exact retQ rfl (Res.one Tryd.results50 rfl) ⟨rfl, rfl⟩

set_option maxRecDepth 4000 in
set_option maxHeartbeats 4000000 in
theorem level_name_c (w : World) (s : ByteArray) {r : Bool} (hm : level_name s = some r) : Ret Tryd.prog 55 #[.string s] w fun v w' => v = .bool r ∧ w = w' := by
  unfold level_name at hm
  refine enter Tryd.func55 rfl Tryd.ntmps55 rfl ?_
  refine C_seq ?_
  refine C_region ?_
  refine V_y (Y_assign rfl) rfl rfl rfl ?_
  refine V_to (fun _ _ => rfl) ?_
  refine C_seq ?_
  refine C_seq ?_
  refine C_region ?_
  refine V_y (Y_move rfl) rfl rfl rfl ?_
  refine V_y (Y_lenStr rfl Tryd.underlying9 rfl) rfl rfl rfl ?_
  refine V_y (Y_move rfl) rfl rfl rfl ?_
  refine V_to (fun _ _ => rfl) ?_
  obtain ⟨o1, ho1, hm⟩ := Option.bind_eq_some_iff.1 hm
  refine C_cutG (ι := Int) (fun (s2 : Int) => [(0, .string s)]) (fun (s2 : Int) => fun w' => o1 = .fin s2 ∧ w = w') ?_ ?_
  · refine C_block ?_
    refine C_while ho1 (fun s8 a w' => ∃ i : Unit, Has ⟨41, [], none⟩ a ([(0, .string s), (6, .int .i64 (s.size : Int)), (7, .int .i64 s8)]) ∧ w = w') (fun a ha => ⟨(), ha.sub ⟨rfl, rfl, rfl, trivial⟩, rfl⟩) ?_
    rintro K s8 a _ ⟨_, ha30, rfl⟩ K16
    refine C_of ?_ ha30
    obtain ⟨x10, h11, h12⟩ := K16
    refine C_seq ?_
    refine C_region ?_
    refine V_y (Y_lss rfl rfl) rfl rfl rfl ?_
    refine V_to (fun _ _ => rfl) ?_
    refine C_seq ?_
    refine C_cond rfl (fun hc17 => ?_) (fun hc17 => ?_)
    · rw [if_pos hc17] at h11
      refine C_skip_to (fun _ _ => rfl) ?_
      refine C_seq ?_
      refine C_block ?_
      refine C_seq ?_
      refine C_region ?_
      refine V_y (Y_move rfl) rfl rfl rfl ?_
      refine V_y (Y_assign rfl) rfl rfl rfl ?_
      refine V_to (fun _ _ => rfl) ?_
      refine C_seq ?_
      refine C_region ?_
      refine V_y (Y_move rfl) rfl rfl rfl ?_
      refine V_y (Y_move rfl) rfl rfl rfl ?_
      obtain ⟨x18, hx18, h11⟩ := Option.bind_eq_some_iff.1 h11
      refine V_y (Y_indexS hx18 Tryd.underlying9 rfl rfl) rfl rfl rfl ?_
      refine V_y (Y_assign rfl) rfl rfl rfl ?_
      refine V_to (fun _ _ => rfl) ?_
      refine C_seq ?_
      refine C_region ?_
      refine V_y (Y_move rfl) rfl rfl rfl ?_
      refine V_y (Y_geq rfl rfl) rfl rfl rfl ?_
      refine V_y (Y_move rfl) rfl rfl rfl ?_
      refine V_cut 3 (fun _ : Unit => [(0, .string s), (4, .int .u8 (x18.toNat : Int)), (6, .int .i64 (s.size : Int)), (7, .int .i64 s8), (18, .bool ((decide ((97 : Int) ≤ (x18.toNat : Int))) && (decide ((x18.toNat : Int) ≤ 122))))]) (fun _ w' => w = w') ?_ ?_
      · simp only [List.take, List.drop]
        rcases Bool.eq_false_or_eq_true (decide ((97 : Int) ≤ (x18.toNat : Int))) with hc19 | hc19
        · refine V_ge rfl rfl rfl hc19 ?_
          refine V_y (Y_move rfl) rfl rfl rfl ?_
          refine V_ge rfl rfl rfl hc19 ?_
          refine V_y (Y_leq rfl rfl) rfl rfl rfl ?_
          refine V_y (Y_pick_te rfl hc19 rfl) rfl rfl rfl ?_
          exact V_end fun a ha => ⟨(), ha.sub ⟨rfl, rfl, rfl, rfl, (by rw [hc19]; rfl), trivial⟩, rfl⟩
        · refine V_gn rfl rfl rfl hc19 rfl rfl rfl ?_
          refine V_gn rfl rfl rfl hc19 rfl rfl rfl ?_
          refine V_y (Y_pick_fe rfl hc19 rfl) rfl rfl rfl ?_
          exact V_end fun a ha => ⟨(), ha.sub ⟨rfl, rfl, rfl, rfl, (by rw [hc19]; rfl), trivial⟩, rfl⟩
      simp only [List.take, List.drop]
      rintro _ _ rfl
      refine V_y (Y_not rfl) rfl rfl rfl ?_
      refine V_y (Y_move rfl) rfl rfl rfl ?_
      refine V_cut 8 (fun _ : Unit => [(0, .string s), (4, .int .u8 (x18.toNat : Int)), (6, .int .i64 (s.size : Int)), (7, .int .i64 s8), (28, .bool ((!((decide ((97 : Int) ≤ (x18.toNat : Int))) && (decide ((x18.toNat : Int) ≤ 122)))) && (!((decide ((48 : Int) ≤ (x18.toNat : Int))) && (decide ((x18.toNat : Int) ≤ 57))))))]) (fun _ w' => w = w') ?_ ?_
      · simp only [List.take, List.drop]
        rcases Bool.eq_false_or_eq_true (!((decide ((97 : Int) ≤ (x18.toNat : Int))) && (decide ((x18.toNat : Int) ≤ 122)))) with hc21 | hc21
        · refine V_ge rfl rfl rfl hc21 ?_
          refine V_y (Y_move rfl) rfl rfl rfl ?_
          refine V_ge rfl rfl rfl hc21 ?_
          refine V_y (Y_geq rfl rfl) rfl rfl rfl ?_
          refine V_ge rfl rfl rfl hc21 ?_
          refine V_y (Y_move rfl) rfl rfl rfl ?_
          refine V_cut 3 (fun _ : Unit => [(0, .string s), (4, .int .u8 (x18.toNat : Int)), (6, .int .i64 (s.size : Int)), (7, .int .i64 s8), (20, .bool (!((decide ((97 : Int) ≤ (x18.toNat : Int))) && (decide ((x18.toNat : Int) ≤ 122))))), (26, .bool ((decide ((48 : Int) ≤ (x18.toNat : Int))) && (decide ((x18.toNat : Int) ≤ 57))))]) (fun _ w' => w = w') ?_ ?_
          · simp only [List.take, List.drop]
            rcases Bool.eq_false_or_eq_true (decide ((48 : Int) ≤ (x18.toNat : Int))) with hc23 | hc23
            · refine V_ge rfl rfl rfl hc23 ?_
              refine V_y (Y_move rfl) rfl rfl rfl ?_
              refine V_ge rfl rfl rfl hc23 ?_
              refine V_y (Y_leq rfl rfl) rfl rfl rfl ?_
              refine V_ge rfl rfl rfl hc21 ?_
              refine V_y (Y_pick_te rfl hc23 rfl) rfl rfl rfl ?_
              exact V_end fun a ha => ⟨(), ha.sub ⟨rfl, rfl, rfl, rfl, rfl, (by rw [hc23]; rfl), trivial⟩, rfl⟩
            · refine V_gn rfl rfl rfl hc23 rfl rfl rfl ?_
              refine V_gn rfl rfl rfl hc23 rfl rfl rfl ?_
              refine V_ge rfl rfl rfl hc21 ?_
              refine V_y (Y_pick_fe rfl hc23 rfl) rfl rfl rfl ?_
              exact V_end fun a ha => ⟨(), ha.sub ⟨rfl, rfl, rfl, rfl, rfl, (by rw [hc23]; rfl), trivial⟩, rfl⟩
          simp only [List.take, List.drop]
          rintro _ _ rfl
          refine V_ge rfl rfl rfl hc21 ?_
          refine V_y (Y_not rfl) rfl rfl rfl ?_
          refine V_y (Y_pick_te rfl hc21 rfl) rfl rfl rfl ?_
          exact V_end fun a ha => ⟨(), ha.sub ⟨rfl, rfl, rfl, rfl, (by rw [hc21]; rfl), trivial⟩, rfl⟩
        · refine V_gn rfl rfl rfl hc21 rfl rfl rfl ?_
          refine V_gn rfl rfl rfl hc21 rfl rfl rfl ?_
          refine V_gn rfl rfl rfl hc21 rfl rfl rfl ?_
          refine V_gu rfl rfl rfl rfl rfl ?_
          refine V_gu rfl rfl rfl rfl rfl ?_
          refine V_gn rfl rfl rfl hc21 rfl rfl rfl ?_
          refine V_gn rfl rfl rfl hc21 rfl rfl rfl ?_
          refine V_y (Y_pick_fe rfl hc21 rfl) rfl rfl rfl ?_
          exact V_end fun a ha => ⟨(), ha.sub ⟨rfl, rfl, rfl, rfl, (by rw [hc21]; rfl), trivial⟩, rfl⟩
      simp only [List.take, List.drop]
      rintro _ _ rfl
      refine V_y (Y_move rfl) rfl rfl rfl ?_
      refine V_cut 3 (fun _ : Unit => [(0, .string s), (6, .int .i64 (s.size : Int)), (7, .int .i64 s8), (32, .bool (((!((decide ((97 : Int) ≤ (x18.toNat : Int))) && (decide ((x18.toNat : Int) ≤ 122)))) && (!((decide ((48 : Int) ≤ (x18.toNat : Int))) && (decide ((x18.toNat : Int) ≤ 57))))) && ((x18.toNat : Int) != 95)))]) (fun _ w' => w = w') ?_ ?_
      · simp only [List.take, List.drop]
        rcases Bool.eq_false_or_eq_true (((!((decide ((97 : Int) ≤ (x18.toNat : Int))) && (decide ((x18.toNat : Int) ≤ 122)))) && (!((decide ((48 : Int) ≤ (x18.toNat : Int))) && (decide ((x18.toNat : Int) ≤ 57)))))) with hc25 | hc25
        · refine V_ge rfl rfl rfl hc25 ?_
          refine V_y (Y_move rfl) rfl rfl rfl ?_
          refine V_ge rfl rfl rfl hc25 ?_
          refine V_y (Y_neq rfl rfl) rfl rfl rfl ?_
          refine V_y (Y_pick_te rfl hc25 rfl) rfl rfl rfl ?_
          exact V_end fun a ha => ⟨(), ha.sub ⟨rfl, rfl, rfl, (by rw [hc25]; rfl), trivial⟩, rfl⟩
        · refine V_gn rfl rfl rfl hc25 rfl rfl rfl ?_
          refine V_gn rfl rfl rfl hc25 rfl rfl rfl ?_
          refine V_y (Y_pick_fe rfl hc25 rfl) rfl rfl rfl ?_
          exact V_end fun a ha => ⟨(), ha.sub ⟨rfl, rfl, rfl, (by rw [hc25]; rfl), trivial⟩, rfl⟩
      simp only [List.take, List.drop]
      rintro _ _ rfl
      refine V_to (fun _ _ => rfl) ?_
      refine C_cond rfl (fun hc27 => ?_) (fun hc27 => ?_)
      · rw [if_pos hc27] at h11
        refine C_seq ?_
        refine C_region ?_
        refine V_y (Y_assign rfl) rfl rfl rfl ?_
        refine V_to (fun _ _ => rfl) ?_
        obtain rfl := Option.some.inj h11
        obtain rfl := (h12 : Lp.rt _ = _)
        rw [Lp.andThen_rt] at hm
        obtain rfl := Option.some.inj hm
        refine C_ret ?_
        try simp only [↓inBlock_ret, ↓then_ret]
        exact retQ rfl (Res.one Tryd.results55 rfl) ⟨rfl, rfl⟩
      · rw [if_neg (nt hc27)] at h11
        refine C_skip_to (fun _ _ => rfl) ?_
        refine C_region ?_
        refine V_y (Y_addI rfl rfl) rfl rfl rfl ?_
        refine V_y (Y_move rfl) rfl rfl rfl ?_
        obtain rfl := Option.some.inj h11
        refine V_end (fun a ha28 => ?_)
        exact ⟨w64 (s8 + 1), h12, ⟨(), ha28.sub ⟨rfl, rfl, rfl, trivial⟩, rfl⟩⟩
    · rw [if_neg (nt hc17)] at h11
      obtain rfl := Option.some.inj h11
      refine C_exit (fun a ha29 => ?_)
      exact ⟨s8, ha29.sub ⟨rfl, trivial⟩, ⟨h12.symm, rfl⟩⟩
  rintro s2 _ ⟨rfl, rfl⟩ a ha7
  rw [Lp.andThen_fin] at hm
  refine C_at (n := ⟨41, [], none⟩) (fun _ _ => rfl) ?_ ha7
  refine C_seq ?_
  refine C_region ?_
  refine V_y (Y_move rfl) rfl rfl rfl ?_
  refine V_y (Y_sneq rfl rfl) rfl rfl rfl ?_
  refine V_y (Y_move rfl) rfl rfl rfl ?_
  refine V_cut 4 (fun _ : Unit => [(40, .bool ((!(strEq s (⟨#[]⟩ : ByteArray))) && (decide ((s.size : Int) ≤ 20))))]) (fun _ w' => w = w') ?_ ?_
  · simp only [List.take, List.drop]
    rcases Bool.eq_false_or_eq_true (!(strEq s (⟨#[]⟩ : ByteArray))) with hc31 | hc31
    · refine V_ge rfl rfl rfl hc31 ?_
      refine V_y (Y_move rfl) rfl rfl rfl ?_
      refine V_ge rfl rfl rfl hc31 ?_
      refine V_y (Y_lenStr rfl Tryd.underlying9 rfl) rfl rfl rfl ?_
      refine V_ge rfl rfl rfl hc31 ?_
      refine V_y (Y_leq rfl rfl) rfl rfl rfl ?_
      refine V_y (Y_pick_te rfl hc31 rfl) rfl rfl rfl ?_
      exact V_end fun a ha => ⟨(), ha.sub ⟨(by rw [hc31]; rfl), trivial⟩, rfl⟩
    · refine V_gn rfl rfl rfl hc31 rfl rfl rfl ?_
      refine V_gn rfl rfl rfl hc31 rfl rfl rfl ?_
      refine V_gn rfl rfl rfl hc31 rfl rfl rfl ?_
      refine V_y (Y_pick_fe rfl hc31 rfl) rfl rfl rfl ?_
      exact V_end fun a ha => ⟨(), ha.sub ⟨(by rw [hc31]; rfl), trivial⟩, rfl⟩
  simp only [List.take, List.drop]
  rintro _ _ rfl
  refine V_y (Y_assign rfl) rfl rfl rfl ?_
  refine V_to (fun _ _ => rfl) ?_
  obtain rfl := Option.some.inj hm
  refine C_ret ?_
  try simp only [↓inBlock_ret, ↓then_ret]
  exact retQ rfl (Res.one Tryd.results55 rfl) ⟨rfl, rfl⟩

set_option maxRecDepth 4000 in
set_option maxHeartbeats 4000000 in
theorem level_checkTest_c (w : World) {A : Nat → Prop} (hA : ∀ b, w.heap.size ≤ b → A b) (t : level_Test) (before : Int) {r : Int} (hm : level_checkTest t before = some r) : Ret Tryd.prog 88 #[.agg #[.int .i64 t.field, .int .i64 t.value.kind, .int .i64 t.value.int, .string t.value.text], .int .i64 before] w fun v w' => v = .int .i64 r ∧ Kp w w' := by
  unfold level_checkTest at hm
  refine enter Tryd.func88 rfl Tryd.ntmps88 rfl ?_
  have hA0 := hA
  have hB := Nat.le_refl w.heap.size
  have hK : Tr w.heap.size A w A w := Tr.refl hA
  have hH : Hp w.heap.size A w [] := Hp.nil
  refine C_seq ?_
  refine C_region ?_
  refine V_box rfl rfl ?_
  intro b1 w2 h3
  have hk5 := h3.kp
  have h4 : El (α := level_Test) A w2 b1 0 t := h3.el hA ⟨[.int .i64 t.field], _, rfl, rfl, ⟨[.int .i64 t.value.kind], _, rfl, rfl, ⟨[.int .i64 t.value.int], _, rfl, rfl, rfl⟩⟩⟩
  have ht6 := Kp.tr hk5 hA hB
  replace hH := Hp.kp hH hk5
  replace hK := Tr.trans hK ht6
  replace hB := Nat.le_trans hB ht6.ex.size
  replace hA := ht6.new
  refine V_y (Y_assign rfl) rfl rfl rfl ?_
  refine V_to (fun _ _ => rfl) ?_
  refine C_seq ?_
  refine C_seq ?_
  refine C_region ?_
  have h7 := El_level_Test_0 h4
  refine V_y (Y_fieldAddr Tryd.underlying97 rfl Tryd.sizeOf3 (by decide) rfl) rfl rfl rfl ?_
  refine V_y (Y_load (El.int h7) Tryd.isAgg3 rfl) rfl rfl rfl ?_
  refine V_call Tryd.call50 rfl rfl rfl rfl (level_within_c w2 t.field (-1) 19) ?_
  rintro _ _ ⟨rfl, rfl⟩
  refine V_y (Y_not rfl) rfl rfl rfl ?_
  refine V_to (fun _ _ => rfl) ?_
  refine C_cond rfl (fun hc8 => ?_) (fun hc8 => ?_)
  · rw [if_pos hc8] at hm
    refine C_seq ?_
    refine C_region ?_
    refine V_y (Y_assign rfl) rfl rfl rfl ?_
    refine V_to (fun _ _ => rfl) ?_
    obtain rfl := Option.some.inj hm
    refine C_ret ?_
    try simp only [↓inBlock_ret, ↓then_ret]
    exact retQ rfl (Res.one Tryd.results88 rfl) ⟨rfl, hK.kp⟩
  · rw [if_neg (nt hc8)] at hm
    refine C_skip_to (fun _ _ => rfl) ?_
    refine C_seq ?_
    refine C_seq ?_
    refine C_region ?_
    have h9 := El_level_Test_0 h4
    refine V_y (Y_fieldAddr Tryd.underlying97 rfl Tryd.sizeOf3 (by decide) rfl) rfl rfl rfl ?_
    refine V_y (Y_load (El.int h9) Tryd.isAgg3 rfl) rfl rfl rfl ?_
    refine V_y (Y_move rfl) rfl rfl rfl ?_
    refine V_y (Y_leq rfl rfl) rfl rfl rfl ?_
    refine V_to (fun _ _ => rfl) ?_
    refine C_cond rfl (fun hc10 => ?_) (fun hc10 => ?_)
    · rw [if_pos hc10] at hm
      refine C_seq ?_
      refine C_region ?_
      refine V_y (Y_assign rfl) rfl rfl rfl ?_
      refine V_to (fun _ _ => rfl) ?_
      obtain rfl := Option.some.inj hm
      refine C_ret ?_
      try simp only [↓inBlock_ret, ↓then_ret]
      exact retQ rfl (Res.one Tryd.results88 rfl) ⟨rfl, hK.kp⟩
    · rw [if_neg (nt hc10)] at hm
      refine C_skip_to (fun _ _ => rfl) ?_
      refine C_seq ?_
      refine C_region ?_
      have h11 := El_level_Test_1 h4
      refine V_y (Y_fieldAddr Tryd.underlying97 rfl Tryd.sizeOf95 (by decide) rfl) rfl rfl rfl ?_
      obtain ⟨h12, _⟩ := El_api_Value h11
      refine V_y (Y_loadA h12 Tryd.isAgg95 Tryd.sizeOf95 rfl) rfl rfl rfl ?_
      refine V_alloc Tryd.zeroValue95 rfl ?_
      intro b13 w14 h15
      refine V_storeNew h15 Tryd.sizeOf95 rfl rfl rfl rfl (by exact (List.forall_mem_cons.2 ⟨rfl, (List.forall_mem_cons.2 ⟨rfl, (List.forall_mem_cons.2 ⟨rfl, (fun _ h => nomatch h)⟩)⟩)⟩)) ?_
      intro w17 h18
      have hk20 := h18.kp
      have h19 : El (α := api_Value) A w17 b13 0 t.value := h18.el hA ⟨[.int .i64 t.value.kind], _, rfl, rfl, ⟨[.int .i64 t.value.int], _, rfl, rfl, rfl⟩⟩
      have ht21 := Kp.tr hk20 hA hB
      replace hH := Hp.kp hH hk20
      replace h4 := El.tr h4 ht21
      replace h11 := El.tr h11 ht21
      replace hK := Tr.trans hK ht21
      replace hB := Nat.le_trans hB ht21.ex.size
      replace hA := ht21.new
      refine V_to (fun _ _ => rfl) ?_
      refine C_seq ?_
      refine C_seq ?_
      refine C_region ?_
      have h22 := El_api_Value_0 h19
      refine V_y (Y_fieldAddr Tryd.underlying95 rfl Tryd.sizeOf3 (by decide) rfl) rfl rfl rfl ?_
      refine V_y (Y_load (El.int h22) Tryd.isAgg3 rfl) rfl rfl rfl ?_
      refine V_call Tryd.call50 rfl rfl rfl rfl (level_within_c w17 t.value.kind 0 6) ?_
      rintro _ _ ⟨rfl, rfl⟩
      refine V_y (Y_not rfl) rfl rfl rfl ?_
      refine V_y (Y_move rfl) rfl rfl rfl ?_
      refine V_cut 9 (fun _ : Unit => [(5, .pointer (some ⟨b13, 0, none⟩)), (31, .bool ((!(level_within t.value.kind 0 6)) || ((t.field == (-1)) && (t.value.kind != 2))))]) (fun _ w' => w17 = w') ?_ ?_
      · simp only [List.take, List.drop]
        rcases Bool.eq_false_or_eq_true (!(level_within t.value.kind 0 6)) with hc23 | hc23
        · refine V_gn rfl rfl rfl hc23 rfl rfl rfl ?_
          refine V_gn rfl rfl rfl hc23 rfl rfl rfl ?_
          refine V_gn rfl rfl rfl hc23 rfl rfl rfl ?_
          refine V_gn rfl rfl rfl hc23 rfl rfl rfl ?_
          refine V_gu rfl rfl rfl rfl rfl ?_
          refine V_gu rfl rfl rfl rfl rfl ?_
          refine V_gu rfl rfl rfl rfl rfl ?_
          refine V_gn rfl rfl rfl hc23 rfl rfl rfl ?_
          refine V_y (Y_pick_te rfl hc23 rfl) rfl rfl rfl ?_
          exact V_end fun a ha => ⟨(), ha.sub ⟨rfl, (by rw [hc23]; rfl), trivial⟩, rfl⟩
        · refine V_ge rfl rfl rfl hc23 ?_
          have h25 := El_level_Test_0 h4
          refine V_y (Y_fieldAddr Tryd.underlying97 rfl Tryd.sizeOf3 (by decide) rfl) rfl rfl rfl ?_
          refine V_ge rfl rfl rfl hc23 ?_
          refine V_y (Y_load (El.int h25) Tryd.isAgg3 rfl) rfl rfl rfl ?_
          refine V_ge rfl rfl rfl hc23 ?_
          refine V_y (Y_eql rfl rfl) rfl rfl rfl ?_
          refine V_ge rfl rfl rfl hc23 ?_
          refine V_y (Y_move rfl) rfl rfl rfl ?_
          refine V_cut 4 (fun _ : Unit => [(5, .pointer (some ⟨b13, 0, none⟩)), (22, .bool (!(level_within t.value.kind 0 6))), (30, .bool ((t.field == (-1)) && (t.value.kind != 2)))]) (fun _ w' => w17 = w') ?_ ?_
          · simp only [List.take, List.drop]
            rcases Bool.eq_false_or_eq_true (t.field == (-1)) with hc26 | hc26
            · refine V_ge rfl rfl rfl hc26 ?_
              have h28 := El_api_Value_0 h19
              refine V_y (Y_fieldAddr Tryd.underlying95 rfl Tryd.sizeOf3 (by decide) rfl) rfl rfl rfl ?_
              refine V_ge rfl rfl rfl hc26 ?_
              refine V_y (Y_load (El.int h28) Tryd.isAgg3 rfl) rfl rfl rfl ?_
              refine V_ge rfl rfl rfl hc26 ?_
              refine V_y (Y_neq rfl rfl) rfl rfl rfl ?_
              refine V_ge rfl rfl rfl hc23 ?_
              refine V_y (Y_pick_te rfl hc26 rfl) rfl rfl rfl ?_
              exact V_end fun a ha => ⟨(), ha.sub ⟨rfl, rfl, (by rw [hc26]; rfl), trivial⟩, rfl⟩
            · refine V_gn rfl rfl rfl hc26 rfl rfl rfl ?_
              refine V_gn rfl rfl rfl hc26 rfl rfl rfl ?_
              refine V_gn rfl rfl rfl hc26 rfl rfl rfl ?_
              refine V_ge rfl rfl rfl hc23 ?_
              refine V_y (Y_pick_fe rfl hc26 rfl) rfl rfl rfl ?_
              exact V_end fun a ha => ⟨(), ha.sub ⟨rfl, rfl, (by rw [hc26]; rfl), trivial⟩, rfl⟩
          simp only [List.take, List.drop]
          rintro _ _ rfl
          refine V_y (Y_pick_fe rfl hc23 rfl) rfl rfl rfl ?_
          exact V_end fun a ha => ⟨(), ha.sub ⟨rfl, (by rw [hc23]; rfl), trivial⟩, rfl⟩
      simp only [List.take, List.drop]
      rintro _ _ rfl
      refine V_to (fun _ _ => rfl) ?_
      refine C_cond rfl (fun hc29 => ?_) (fun hc29 => ?_)
      · rw [if_pos hc29] at hm
        refine C_seq ?_
        refine C_region ?_
        refine V_y (Y_assign rfl) rfl rfl rfl ?_
        refine V_to (fun _ _ => rfl) ?_
        obtain rfl := Option.some.inj hm
        refine C_ret ?_
        try simp only [↓inBlock_ret, ↓then_ret]
        exact retQ rfl (Res.one Tryd.results88 rfl) ⟨rfl, hK.kp⟩
      · rw [if_neg (nt hc29)] at hm
        refine C_skip_to (fun _ _ => rfl) ?_
        refine C_seq ?_
        refine C_seq ?_
        refine C_region ?_
        have h30 := El_api_Value_1 h19
        refine V_y (Y_fieldAddr Tryd.underlying95 rfl Tryd.sizeOf3 (by decide) rfl) rfl rfl rfl ?_
        refine V_y (Y_load (El.int h30) Tryd.isAgg3 rfl) rfl rfl rfl ?_
        refine V_y (Y_neq rfl rfl) rfl rfl rfl ?_
        refine V_y (Y_move rfl) rfl rfl rfl ?_
        refine V_cut 9 (fun _ : Unit => [(5, .pointer (some ⟨b13, 0, none⟩)), (44, .bool ((t.value.int != 0) && ((t.value.kind == 0) || (t.value.kind == 3))))]) (fun _ w' => w17 = w') ?_ ?_
        · simp only [List.take, List.drop]
          rcases Bool.eq_false_or_eq_true (t.value.int != 0) with hc31 | hc31
          · refine V_ge rfl rfl rfl hc31 ?_
            have h33 := El_api_Value_0 h19
            refine V_y (Y_fieldAddr Tryd.underlying95 rfl Tryd.sizeOf3 (by decide) rfl) rfl rfl rfl ?_
            refine V_ge rfl rfl rfl hc31 ?_
            refine V_y (Y_load (El.int h33) Tryd.isAgg3 rfl) rfl rfl rfl ?_
            refine V_ge rfl rfl rfl hc31 ?_
            refine V_y (Y_eql rfl rfl) rfl rfl rfl ?_
            refine V_ge rfl rfl rfl hc31 ?_
            refine V_y (Y_move rfl) rfl rfl rfl ?_
            refine V_cut 4 (fun _ : Unit => [(5, .pointer (some ⟨b13, 0, none⟩)), (35, .bool (t.value.int != 0)), (43, .bool ((t.value.kind == 0) || (t.value.kind == 3)))]) (fun _ w' => w17 = w') ?_ ?_
            · simp only [List.take, List.drop]
              rcases Bool.eq_false_or_eq_true (t.value.kind == 0) with hc34 | hc34
              · refine V_gn rfl rfl rfl hc34 rfl rfl rfl ?_
                refine V_gn rfl rfl rfl hc34 rfl rfl rfl ?_
                refine V_gn rfl rfl rfl hc34 rfl rfl rfl ?_
                refine V_ge rfl rfl rfl hc31 ?_
                refine V_y (Y_pick_te rfl hc34 rfl) rfl rfl rfl ?_
                exact V_end fun a ha => ⟨(), ha.sub ⟨rfl, rfl, (by rw [hc34]; rfl), trivial⟩, rfl⟩
              · refine V_ge rfl rfl rfl hc34 ?_
                have h36 := El_api_Value_0 h19
                refine V_y (Y_fieldAddr Tryd.underlying95 rfl Tryd.sizeOf3 (by decide) rfl) rfl rfl rfl ?_
                refine V_ge rfl rfl rfl hc34 ?_
                refine V_y (Y_load (El.int h36) Tryd.isAgg3 rfl) rfl rfl rfl ?_
                refine V_ge rfl rfl rfl hc34 ?_
                refine V_y (Y_eql rfl rfl) rfl rfl rfl ?_
                refine V_ge rfl rfl rfl hc31 ?_
                refine V_y (Y_pick_fe rfl hc34 rfl) rfl rfl rfl ?_
                exact V_end fun a ha => ⟨(), ha.sub ⟨rfl, rfl, (by rw [hc34]; rfl), trivial⟩, rfl⟩
            simp only [List.take, List.drop]
            rintro _ _ rfl
            refine V_y (Y_pick_te rfl hc31 rfl) rfl rfl rfl ?_
            exact V_end fun a ha => ⟨(), ha.sub ⟨rfl, (by rw [hc31]; rfl), trivial⟩, rfl⟩
          · refine V_gn rfl rfl rfl hc31 rfl rfl rfl ?_
            refine V_gn rfl rfl rfl hc31 rfl rfl rfl ?_
            refine V_gn rfl rfl rfl hc31 rfl rfl rfl ?_
            refine V_gn rfl rfl rfl hc31 rfl rfl rfl ?_
            refine V_gu rfl rfl rfl rfl rfl ?_
            refine V_gu rfl rfl rfl rfl rfl ?_
            refine V_gu rfl rfl rfl rfl rfl ?_
            refine V_gn rfl rfl rfl hc31 rfl rfl rfl ?_
            refine V_y (Y_pick_fe rfl hc31 rfl) rfl rfl rfl ?_
            exact V_end fun a ha => ⟨(), ha.sub ⟨rfl, (by rw [hc31]; rfl), trivial⟩, rfl⟩
        simp only [List.take, List.drop]
        rintro _ _ rfl
        refine V_y (Y_move rfl) rfl rfl rfl ?_
        refine V_cut 9 (fun _ : Unit => [(5, .pointer (some ⟨b13, 0, none⟩)), (54, .bool (((t.value.int != 0) && ((t.value.kind == 0) || (t.value.kind == 3))) || ((!(strEq t.value.text (⟨#[]⟩ : ByteArray))) && (t.value.kind != 3))))]) (fun _ w' => w17 = w') ?_ ?_
        · simp only [List.take, List.drop]
          rcases Bool.eq_false_or_eq_true (((t.value.int != 0) && ((t.value.kind == 0) || (t.value.kind == 3)))) with hc37 | hc37
          · refine V_gn rfl rfl rfl hc37 rfl rfl rfl ?_
            refine V_gn rfl rfl rfl hc37 rfl rfl rfl ?_
            refine V_gn rfl rfl rfl hc37 rfl rfl rfl ?_
            refine V_gn rfl rfl rfl hc37 rfl rfl rfl ?_
            refine V_gu rfl rfl rfl rfl rfl ?_
            refine V_gu rfl rfl rfl rfl rfl ?_
            refine V_gu rfl rfl rfl rfl rfl ?_
            refine V_gn rfl rfl rfl hc37 rfl rfl rfl ?_
            refine V_y (Y_pick_te rfl hc37 rfl) rfl rfl rfl ?_
            exact V_end fun a ha => ⟨(), ha.sub ⟨rfl, (by rw [hc37]; rfl), trivial⟩, rfl⟩
          · refine V_ge rfl rfl rfl hc37 ?_
            have h39 := El_api_Value_2 h19
            refine V_y (Y_fieldAddr Tryd.underlying95 rfl Tryd.sizeOf9 (by decide) rfl) rfl rfl rfl ?_
            refine V_ge rfl rfl rfl hc37 ?_
            refine V_y (Y_load (El.str h39) Tryd.isAgg9 rfl) rfl rfl rfl ?_
            refine V_ge rfl rfl rfl hc37 ?_
            refine V_y (Y_sneq rfl rfl) rfl rfl rfl ?_
            refine V_ge rfl rfl rfl hc37 ?_
            refine V_y (Y_move rfl) rfl rfl rfl ?_
            refine V_cut 4 (fun _ : Unit => [(5, .pointer (some ⟨b13, 0, none⟩)), (45, .bool ((t.value.int != 0) && ((t.value.kind == 0) || (t.value.kind == 3)))), (53, .bool ((!(strEq t.value.text (⟨#[]⟩ : ByteArray))) && (t.value.kind != 3)))]) (fun _ w' => w17 = w') ?_ ?_
            · simp only [List.take, List.drop]
              rcases Bool.eq_false_or_eq_true (!(strEq t.value.text (⟨#[]⟩ : ByteArray))) with hc40 | hc40
              · refine V_ge rfl rfl rfl hc40 ?_
                have h42 := El_api_Value_0 h19
                refine V_y (Y_fieldAddr Tryd.underlying95 rfl Tryd.sizeOf3 (by decide) rfl) rfl rfl rfl ?_
                refine V_ge rfl rfl rfl hc40 ?_
                refine V_y (Y_load (El.int h42) Tryd.isAgg3 rfl) rfl rfl rfl ?_
                refine V_ge rfl rfl rfl hc40 ?_
                refine V_y (Y_neq rfl rfl) rfl rfl rfl ?_
                refine V_ge rfl rfl rfl hc37 ?_
                refine V_y (Y_pick_te rfl hc40 rfl) rfl rfl rfl ?_
                exact V_end fun a ha => ⟨(), ha.sub ⟨rfl, rfl, (by rw [hc40]; rfl), trivial⟩, rfl⟩
              · refine V_gn rfl rfl rfl hc40 rfl rfl rfl ?_
                refine V_gn rfl rfl rfl hc40 rfl rfl rfl ?_
                refine V_gn rfl rfl rfl hc40 rfl rfl rfl ?_
                refine V_ge rfl rfl rfl hc37 ?_
                refine V_y (Y_pick_fe rfl hc40 rfl) rfl rfl rfl ?_
                exact V_end fun a ha => ⟨(), ha.sub ⟨rfl, rfl, (by rw [hc40]; rfl), trivial⟩, rfl⟩
            simp only [List.take, List.drop]
            rintro _ _ rfl
            refine V_y (Y_pick_fe rfl hc37 rfl) rfl rfl rfl ?_
            exact V_end fun a ha => ⟨(), ha.sub ⟨rfl, (by rw [hc37]; rfl), trivial⟩, rfl⟩
        simp only [List.take, List.drop]
        rintro _ _ rfl
        refine V_to (fun _ _ => rfl) ?_
        refine C_cond rfl (fun hc43 => ?_) (fun hc43 => ?_)
        · rw [if_pos hc43] at hm
          refine C_seq ?_
          refine C_region ?_
          refine V_y (Y_assign rfl) rfl rfl rfl ?_
          refine V_to (fun _ _ => rfl) ?_
          obtain rfl := Option.some.inj hm
          refine C_ret ?_
          try simp only [↓inBlock_ret, ↓then_ret]
          exact retQ rfl (Res.one Tryd.results88 rfl) ⟨rfl, hK.kp⟩
        · rw [if_neg (nt hc43)] at hm
          refine C_skip_to (fun _ _ => rfl) ?_
          refine C_seq ?_
          refine C_region ?_
          refine V_y (Y_assign rfl) rfl rfl rfl ?_
          refine V_to (fun _ _ => rfl) ?_
          refine C_seq ?_
          refine C_seq ?_
          refine C_region ?_
          have h44 := El_api_Value_0 h19
          refine V_y (Y_fieldAddr Tryd.underlying95 rfl Tryd.sizeOf3 (by decide) rfl) rfl rfl rfl ?_
          refine V_y (Y_load (El.int h44) Tryd.isAgg3 rfl) rfl rfl rfl ?_
          refine V_to (fun _ _ => rfl) ?_
          obtain ⟨s46, ho45, hm⟩ := Option.bind_eq_some_iff.1 hm
          refine C_cutG (ι := Unit) (fun (_ : Unit) => [(5, .pointer (some ⟨b13, 0, none⟩)), (6, .bool s46)]) (fun (_ : Unit) => fun w' => w17 = w') ?_ ?_
          · refine C_block ?_
            refine C_seq ?_
            refine C_region ?_
            refine V_y (Y_eql rfl rfl) rfl rfl rfl ?_
            refine V_y (Y_assign rfl) rfl rfl rfl ?_
            refine V_to (fun _ _ => rfl) ?_
            obtain ⟨s52, ho51, ho45⟩ := Option.bind_eq_some_iff.1 ho45
            refine C_cutG (ι := Unit) (fun (_ : Unit) => [(5, .pointer (some ⟨b13, 0, none⟩)), (6, .bool s52)]) (fun (_ : Unit) => fun w' => w17 = w') ?_ ?_
            · refine C_cond rfl (fun hc57 => ?_) (fun hc57 => ?_)
              · rw [if_pos hc57] at ho51
                refine C_region ?_
                have h58 := El_api_Value_1 h19
                refine V_y (Y_fieldAddr Tryd.underlying95 rfl Tryd.sizeOf3 (by decide) rfl) rfl rfl rfl ?_
                refine V_y (Y_load (El.int h58) Tryd.isAgg3 rfl) rfl rfl rfl ?_
                refine V_call Tryd.call50 rfl rfl rfl rfl (level_within_c w17 t.value.int 0 1) ?_
                rintro _ _ ⟨rfl, rfl⟩
                refine V_y (Y_assign rfl) rfl rfl rfl ?_
                obtain rfl := Option.some.inj ho51
                refine V_end (fun a ha59 => ?_)
                exact ⟨(), ha59.sub ⟨rfl, rfl, trivial⟩, rfl⟩
              · rw [if_neg (nt hc57)] at ho51
                refine C_seq ?_
                refine C_region ?_
                refine V_y (Y_eql rfl rfl) rfl rfl rfl ?_
                refine V_y (Y_assign rfl) rfl rfl rfl ?_
                refine V_to (fun _ _ => rfl) ?_
                obtain ⟨s61, ho60, ho51⟩ := Option.bind_eq_some_iff.1 ho51
                refine C_cutG (ι := Unit) (fun (_ : Unit) => [(5, .pointer (some ⟨b13, 0, none⟩)), (6, .bool s61)]) (fun (_ : Unit) => fun w' => w17 = w') ?_ ?_
                · refine C_cond rfl (fun hc66 => ?_) (fun hc66 => ?_)
                  · rw [if_pos hc66] at ho60
                    refine C_region ?_
                    have h67 := El_api_Value_1 h19
                    refine V_y (Y_fieldAddr Tryd.underlying95 rfl Tryd.sizeOf3 (by decide) rfl) rfl rfl rfl ?_
                    refine V_y (Y_load (El.int h67) Tryd.isAgg3 rfl) rfl rfl rfl ?_
                    refine V_call Tryd.call50 rfl rfl rfl rfl (level_within_c w17 t.value.int 0 19) ?_
                    rintro _ _ ⟨rfl, rfl⟩
                    refine V_y (Y_assign rfl) rfl rfl rfl ?_
                    obtain rfl := Option.some.inj ho60
                    refine V_end (fun a ha68 => ?_)
                    exact ⟨(), ha68.sub ⟨rfl, rfl, trivial⟩, rfl⟩
                  · rw [if_neg (nt hc66)] at ho60
                    refine C_seq ?_
                    refine C_region ?_
                    refine V_y (Y_eql rfl rfl) rfl rfl rfl ?_
                    refine V_y (Y_assign rfl) rfl rfl rfl ?_
                    refine V_to (fun _ _ => rfl) ?_
                    obtain ⟨s70, ho69, ho60⟩ := Option.bind_eq_some_iff.1 ho60
                    refine C_cutG (ι := Unit) (fun (_ : Unit) => [(5, .pointer (some ⟨b13, 0, none⟩)), (6, .bool s70)]) (fun (_ : Unit) => fun w' => w17 = w') ?_ ?_
                    · refine C_cond rfl (fun hc75 => ?_) (fun hc75 => ?_)
                      · rw [if_pos hc75] at ho69
                        refine C_region ?_
                        have h76 := El_api_Value_1 h19
                        refine V_y (Y_fieldAddr Tryd.underlying95 rfl Tryd.sizeOf3 (by decide) rfl) rfl rfl rfl ?_
                        refine V_y (Y_load (El.int h76) Tryd.isAgg3 rfl) rfl rfl rfl ?_
                        refine V_call Tryd.call50 rfl rfl rfl rfl (level_within_c w17 t.value.int 0 3000000) ?_
                        rintro _ _ ⟨rfl, rfl⟩
                        refine V_y (Y_assign rfl) rfl rfl rfl ?_
                        obtain rfl := Option.some.inj ho69
                        refine V_end (fun a ha77 => ?_)
                        exact ⟨(), ha77.sub ⟨rfl, rfl, trivial⟩, rfl⟩
                      · rw [if_neg (nt hc75)] at ho69
                        refine C_seq ?_
                        refine C_region ?_
                        refine V_y (Y_eql rfl rfl) rfl rfl rfl ?_
                        refine V_y (Y_assign rfl) rfl rfl rfl ?_
                        refine V_to (fun _ _ => rfl) ?_
                        obtain ⟨s79, ho78, ho69⟩ := Option.bind_eq_some_iff.1 ho69
                        refine C_cutG (ι := Unit) (fun (_ : Unit) => [(5, .pointer (some ⟨b13, 0, none⟩)), (6, .bool s79)]) (fun (_ : Unit) => fun w' => w17 = w') ?_ ?_
                        · refine C_cond rfl (fun hc84 => ?_) (fun hc84 => ?_)
                          · rw [if_pos hc84] at ho78
                            refine C_region ?_
                            have h85 := El_api_Value_1 h19
                            refine V_y (Y_fieldAddr Tryd.underlying95 rfl Tryd.sizeOf3 (by decide) rfl) rfl rfl rfl ?_
                            refine V_y (Y_load (El.int h85) Tryd.isAgg3 rfl) rfl rfl rfl ?_
                            refine V_call Tryd.call50 rfl rfl rfl rfl (level_within_c w17 t.value.int 1 40) ?_
                            rintro _ _ ⟨rfl, rfl⟩
                            refine V_y (Y_assign rfl) rfl rfl rfl ?_
                            obtain rfl := Option.some.inj ho78
                            refine V_end (fun a ha86 => ?_)
                            exact ⟨(), ha86.sub ⟨rfl, rfl, trivial⟩, rfl⟩
                          · rw [if_neg (nt hc84)] at ho78
                            obtain rfl := Option.some.inj ho78
                            refine C_skip (fun a ha87 => ?_)
                            exact ⟨(), ha87.sub ⟨rfl, rfl, trivial⟩, rfl⟩
                        rintro _ _ rfl a ha83
                        obtain rfl := Option.some.inj ho69
                        exact ⟨(), ha83.sub ⟨rfl, rfl, trivial⟩, rfl⟩
                    rintro _ _ rfl a ha74
                    obtain rfl := Option.some.inj ho60
                    exact ⟨(), ha74.sub ⟨rfl, rfl, trivial⟩, rfl⟩
                rintro _ _ rfl a ha65
                obtain rfl := Option.some.inj ho51
                exact ⟨(), ha65.sub ⟨rfl, rfl, trivial⟩, rfl⟩
            rintro _ _ rfl a ha56
            obtain rfl := Option.some.inj ho45
            exact ⟨(), ha56.sub ⟨rfl, rfl, trivial⟩, rfl⟩
          rintro _ _ rfl a ha50
          refine C_at (n := ⟨102, [], none⟩) (fun _ _ => rfl) ?_ ha50
          refine C_seq ?_
          refine C_seq ?_
          refine C_region ?_
          refine V_y (Y_move rfl) rfl rfl rfl ?_
          refine V_y (Y_not rfl) rfl rfl rfl ?_
          refine V_to (fun _ _ => rfl) ?_
          refine C_cond rfl (fun hc92 => ?_) (fun hc92 => ?_)
          · rw [if_pos hc92] at hm
            refine C_seq ?_
            refine C_region ?_
            refine V_y (Y_assign rfl) rfl rfl rfl ?_
            refine V_to (fun _ _ => rfl) ?_
            obtain rfl := Option.some.inj hm
            refine C_ret ?_
            try simp only [↓inBlock_ret, ↓then_ret]
            exact retQ rfl (Res.one Tryd.results88 rfl) ⟨rfl, hK.kp⟩
          · rw [if_neg (nt hc92)] at hm
            refine C_skip_to (fun _ _ => rfl) ?_
            refine C_seq ?_
            refine C_seq ?_
            refine C_region ?_
            have h93 := El_api_Value_2 h19
            refine V_y (Y_fieldAddr Tryd.underlying95 rfl Tryd.sizeOf9 (by decide) rfl) rfl rfl rfl ?_
            refine V_y (Y_load (El.str h93) Tryd.isAgg9 rfl) rfl rfl rfl ?_
            refine V_y (Y_lenStr rfl Tryd.underlying9 rfl) rfl rfl rfl ?_
            refine V_y (Y_gtr rfl rfl) rfl rfl rfl ?_
            refine V_to (fun _ _ => rfl) ?_
            refine C_cond rfl (fun hc94 => ?_) (fun hc94 => ?_)
            · rw [if_pos hc94] at hm
              refine C_seq ?_
              refine C_region ?_
              refine V_y (Y_assign rfl) rfl rfl rfl ?_
              refine V_to (fun _ _ => rfl) ?_
              obtain rfl := Option.some.inj hm
              refine C_ret ?_
              try simp only [↓inBlock_ret, ↓then_ret]
              exact retQ rfl (Res.one Tryd.results88 rfl) ⟨rfl, hK.kp⟩
            · rw [if_neg (nt hc94)] at hm
              refine C_skip_to (fun _ _ => rfl) ?_
              refine C_seq ?_
              refine C_seq ?_
              refine C_region ?_
              have h95 := El_api_Value_2 h19
              refine V_y (Y_fieldAddr Tryd.underlying95 rfl Tryd.sizeOf9 (by decide) rfl) rfl rfl rfl ?_
              refine V_y (Y_load (El.str h95) Tryd.isAgg9 rfl) rfl rfl rfl ?_
              refine V_y (Y_lenStr rfl Tryd.underlying9 rfl) rfl rfl rfl ?_
              refine V_y (Y_move rfl) rfl rfl rfl ?_
              refine V_to (fun _ _ => rfl) ?_
              obtain ⟨o96, ho96, hm⟩ := Option.bind_eq_some_iff.1 hm
              refine C_cutG (ι := Int) (fun (s97 : Int) => []) (fun (s97 : Int) => fun w' => o96 = .fin s97 ∧ w17 = w') ?_ ?_
              · refine C_block ?_
                refine C_while ho96 (fun s103 a w' => ∃ i : Unit, Has ⟨102, [], none⟩ a ([(5, .pointer (some ⟨b13, 0, none⟩)), (85, .int .i64 (t.value.text.size : Int)), (86, .int .i64 s103)]) ∧ w17 = w') (fun a ha => ⟨(), ha.sub ⟨rfl, rfl, rfl, trivial⟩, rfl⟩) ?_
                rintro K s103 a _ ⟨_, ha121, rfl⟩ K111
                refine C_of ?_ ha121
                obtain ⟨x105, h106, h107⟩ := K111
                refine C_seq ?_
                refine C_region ?_
                refine V_y (Y_lss rfl rfl) rfl rfl rfl ?_
                refine V_to (fun _ _ => rfl) ?_
                refine C_seq ?_
                refine C_cond rfl (fun hc112 => ?_) (fun hc112 => ?_)
                · rw [if_pos hc112] at h106
                  refine C_skip_to (fun _ _ => rfl) ?_
                  refine C_seq ?_
                  refine C_block ?_
                  refine C_seq ?_
                  refine C_region ?_
                  refine V_y (Y_move rfl) rfl rfl rfl ?_
                  refine V_y (Y_assign rfl) rfl rfl rfl ?_
                  refine V_to (fun _ _ => rfl) ?_
                  refine C_seq ?_
                  refine C_region ?_
                  have h113 := El_api_Value_2 h19
                  refine V_y (Y_fieldAddr Tryd.underlying95 rfl Tryd.sizeOf9 (by decide) rfl) rfl rfl rfl ?_
                  refine V_y (Y_load (El.str h113) Tryd.isAgg9 rfl) rfl rfl rfl ?_
                  refine V_y (Y_move rfl) rfl rfl rfl ?_
                  obtain ⟨x114, hx114, h106⟩ := Option.bind_eq_some_iff.1 h106
                  refine V_y (Y_indexS hx114 Tryd.underlying9 rfl rfl) rfl rfl rfl ?_
                  refine V_y (Y_lss rfl rfl) rfl rfl rfl ?_
                  refine V_y (Y_move rfl) rfl rfl rfl ?_
                  obtain ⟨s116, hs116, h106⟩ := Option.bind_eq_some_iff.1 h106
                  refine V_cut 6 (fun _ : Unit => [(5, .pointer (some ⟨b13, 0, none⟩)), (85, .int .i64 (t.value.text.size : Int)), (86, .int .i64 s103), (100, .bool s116)]) (fun _ w' => w17 = w') ?_ ?_
                  · simp only [List.take, List.drop]
                    rcases Bool.eq_false_or_eq_true (decide ((x114.toNat : Int) < 32)) with hc115 | hc115
                    · rw [if_pos hc115] at hs116
                      refine V_gn rfl rfl rfl hc115 rfl rfl rfl ?_
                      refine V_gn rfl rfl rfl hc115 rfl rfl rfl ?_
                      refine V_gn rfl rfl rfl hc115 rfl rfl rfl ?_
                      refine V_gn rfl rfl rfl hc115 rfl rfl rfl ?_
                      refine V_gn rfl rfl rfl hc115 rfl rfl rfl ?_
                      refine V_y (Y_pick_te rfl hc115 rfl) rfl rfl rfl ?_
                      obtain rfl := Option.some.inj hs116
                      exact V_end fun a ha => ⟨(), ha.sub ⟨rfl, rfl, rfl, rfl, trivial⟩, rfl⟩
                    · rw [if_neg (nt hc115)] at hs116
                      refine V_ge rfl rfl rfl hc115 ?_
                      have h117 := El_api_Value_2 h19
                      refine V_y (Y_fieldAddr Tryd.underlying95 rfl Tryd.sizeOf9 (by decide) rfl) rfl rfl rfl ?_
                      refine V_ge rfl rfl rfl hc115 ?_
                      refine V_y (Y_load (El.str h117) Tryd.isAgg9 rfl) rfl rfl rfl ?_
                      refine V_ge rfl rfl rfl hc115 ?_
                      refine V_y (Y_move rfl) rfl rfl rfl ?_
                      refine V_ge rfl rfl rfl hc115 ?_
                      refine V_y (Y_indexS hx114 Tryd.underlying9 rfl rfl) rfl rfl rfl ?_
                      refine V_ge rfl rfl rfl hc115 ?_
                      refine V_y (Y_eql rfl rfl) rfl rfl rfl ?_
                      refine V_y (Y_pick_fe rfl hc115 rfl) rfl rfl rfl ?_
                      obtain rfl := Option.some.inj hs116
                      exact V_end fun a ha => ⟨(), ha.sub ⟨rfl, rfl, rfl, rfl, trivial⟩, rfl⟩
                  simp only [List.take, List.drop]
                  rintro _ _ rfl
                  refine V_to (fun _ _ => rfl) ?_
                  refine C_cond rfl (fun hc118 => ?_) (fun hc118 => ?_)
                  · rw [if_pos hc118] at h106
                    refine C_seq ?_
                    refine C_region ?_
                    refine V_y (Y_assign rfl) rfl rfl rfl ?_
                    refine V_to (fun _ _ => rfl) ?_
                    obtain rfl := Option.some.inj h106
                    obtain rfl := (h107 : Lp.rt _ = _)
                    rw [Lp.andThen_rt] at hm
                    obtain rfl := Option.some.inj hm
                    refine C_ret ?_
                    try simp only [↓inBlock_ret, ↓then_ret]
                    exact retQ rfl (Res.one Tryd.results88 rfl) ⟨rfl, hK.kp⟩
                  · rw [if_neg (nt hc118)] at h106
                    refine C_skip_to (fun _ _ => rfl) ?_
                    refine C_region ?_
                    refine V_y (Y_addI rfl rfl) rfl rfl rfl ?_
                    refine V_y (Y_move rfl) rfl rfl rfl ?_
                    obtain rfl := Option.some.inj h106
                    refine V_end (fun a ha119 => ?_)
                    exact ⟨w64 (s103 + 1), h107, ⟨(), ha119.sub ⟨rfl, rfl, rfl, trivial⟩, rfl⟩⟩
                · rw [if_neg (nt hc112)] at h106
                  obtain rfl := Option.some.inj h106
                  refine C_exit (fun a ha120 => ?_)
                  exact ⟨s103, ha120.sub trivial, ⟨h107.symm, rfl⟩⟩
              rintro s97 _ ⟨rfl, rfl⟩ a ha102
              rw [Lp.andThen_fin] at hm
              refine C_at (n := ⟨102, [], none⟩) (fun _ _ => rfl) ?_ ha102
              refine C_seq ?_
              refine C_region ?_
              refine V_y (Y_assign rfl) rfl rfl rfl ?_
              refine V_to (fun _ _ => rfl) ?_
              obtain rfl := Option.some.inj hm
              refine C_ret ?_
              try simp only [↓inBlock_ret, ↓then_ret]
              exact retQ rfl (Res.one Tryd.results88 rfl) ⟨rfl, hK.kp⟩

set_option maxRecDepth 4000 in
set_option maxHeartbeats 4000000 in
theorem level_checkLevel_c (w : World) {A : Nat → Prop} (hA : ∀ b, w.heap.size ≤ b → A b) (l : level_Level) (v_l0 : Value) (h_l0 : Sl A w v_l0 l.tests) (v_l1 : Value) (h_l1 : Sl A w v_l1 l.targets) {r : Int} (hm : level_checkLevel l = some r) : Ret Tryd.prog 56 #[.agg #[.string l.name, v_l0, v_l1]] w fun v w' => v = .int .i64 r ∧ Kp w w' := by
  unfold level_checkLevel at hm
  refine enter Tryd.func56 rfl Tryd.ntmps56 rfl ?_
  have hA0 := hA
  have hB := Nat.le_refl w.heap.size
  have hK : Tr w.heap.size A w A w := Tr.refl hA
  have hH : Hp w.heap.size A w [] := Hp.nil
  refine C_seq ?_
  refine C_region ?_
  refine V_box rfl rfl ?_
  intro b5 w6 h7
  have hk9 := h7.kp
  have h8 : El (α := level_Level) A w6 b5 0 l := h7.el hA ⟨[.string l.name], _, rfl, rfl, ⟨[v_l0], _, rfl, ⟨_, rfl, h_l0⟩, ⟨_, rfl, h_l1⟩⟩⟩
  have ht10 := Kp.tr hk9 hA hB
  replace hH := Hp.kp hH hk9
  replace h_l0 := Sl.tr h_l0 ht10
  replace h_l1 := Sl.tr h_l1 ht10
  replace hK := Tr.trans hK ht10
  replace hB := Nat.le_trans hB ht10.ex.size
  replace hA := ht10.new
  refine V_y (Y_assign rfl) rfl rfl rfl ?_
  refine V_to (fun _ _ => rfl) ?_
  refine C_seq ?_
  refine C_seq ?_
  refine C_region ?_
  have h11 := El_level_Level_1 h8
  refine V_y (Y_fieldAddr Tryd.underlying93 rfl Tryd.sizeOf90 (by decide) rfl) rfl rfl rfl ?_
  obtain ⟨v12, h13, h14⟩ := El.list h11
  refine V_y (Y_load h13 Tryd.isAgg90 rfl) rfl rfl rfl ?_
  refine V_y (Y_lenSl h14 rfl Tryd.underlying90 rfl) rfl rfl rfl ?_
  refine V_y (Y_gtr rfl rfl) rfl rfl rfl ?_
  refine V_to (fun _ _ => rfl) ?_
  refine C_cond rfl (fun hc15 => ?_) (fun hc15 => ?_)
  · rw [if_pos hc15] at hm
    refine C_seq ?_
    refine C_region ?_
    refine V_y (Y_assign rfl) rfl rfl rfl ?_
    refine V_to (fun _ _ => rfl) ?_
    obtain rfl := Option.some.inj hm
    refine C_ret ?_
    try simp only [↓inBlock_ret, ↓then_ret]
    exact retQ rfl (Res.one Tryd.results56 rfl) ⟨rfl, hK.kp⟩
  · rw [if_neg (nt hc15)] at hm
    refine C_skip_to (fun _ _ => rfl) ?_
    refine C_seq ?_
    refine C_region ?_
    refine V_y (Y_assign rfl) rfl rfl rfl ?_
    refine V_to (fun _ _ => rfl) ?_
    refine C_seq ?_
    refine C_seq ?_
    refine C_region ?_
    have h16 := El_level_Level_1 h8
    refine V_y (Y_fieldAddr Tryd.underlying93 rfl Tryd.sizeOf90 (by decide) rfl) rfl rfl rfl ?_
    obtain ⟨v17, h18, h19⟩ := El.list h16
    refine V_y (Y_load h18 Tryd.isAgg90 rfl) rfl rfl rfl ?_
    refine V_y (Y_lenSl h19 rfl Tryd.underlying90 rfl) rfl rfl rfl ?_
    refine V_y (Y_move rfl) rfl rfl rfl ?_
    refine V_to (fun _ _ => rfl) ?_
    have hn40 := Sl.le h19
    obtain ⟨o20, ho20, hm⟩ := Option.bind_eq_some_iff.1 hm
    refine C_cutG (ι := (Int × (Nat → Prop))) (fun ⟨s21, A27⟩ => [(1, .pointer (some ⟨b5, 0, none⟩))]) (fun ⟨s21, A27⟩ => fun w' => o20 = .fin s21 ∧ Hp w.heap.size A27 w' ([]) ∧ Tr w.heap.size A w6 A27 w') ?_ ?_
    · refine C_block ?_
      refine C_range ho20 (fun k23 s29 a w' => ∃ i : (Nat → Prop), Has ⟨68, [], none⟩ a ([(1, .pointer (some ⟨b5, 0, none⟩)), (3, .int .i64 s29), (14, v17), (15, .int .i64 (l.tests.length : Int)), (16, .int .i64 (k23 : Int))]) ∧ Hp w.heap.size i w' ([]) ∧ Tr w.heap.size A w6 i w') (fun a ha => ⟨A, ha.sub ⟨rfl, rfl, rfl, rfl, rfl, trivial⟩, ⟨hH, Tr.refl hA⟩⟩) ?_
      rintro K k23 s29 a w30 ⟨A31, ha64, hH32, hr22⟩ hle36 K39 h38
      refine C_of ?_ ha64
      replace h8 := El.tr h8 hr22
      replace h19 := Sl.tr h19 hr22
      replace hK := Tr.trans hK hr22
      replace hB := Nat.le_trans hB hr22.ex.size
      replace hA := hr22.new
      replace hH : Hp w.heap.size A31 w30 ([]) := hH32
      refine C_seq (C_region (V_y (Y_lss rfl rfl) rfl rfl rfl (V_to (fun _ _ => rfl) ?_)))
      refine C_seq ?_
      refine C_cond rfl (fun hc41 => ?_) (fun hc41 => ?_)
      · have hlt37 := lt_of_dec hc41
        obtain ⟨x33, h34, h35⟩ := K39 hlt37
        refine C_skip_to (fun _ _ => rfl) ?_
        refine C_seq ?_
        refine C_block ?_
        refine C_seq ?_
        refine C_region ?_
        obtain ⟨x42, hx42, h34⟩ := Option.bind_eq_some_iff.1 h34
        refine V_indexAddr h19 hx42 Tryd.underlying90 Tryd.sizeOf97 rfl rfl rfl ?_
        intro b43 o44 h45
        obtain ⟨h46, _⟩ := El_level_Test h45
        refine V_y (Y_loadA h46 Tryd.isAgg97 Tryd.sizeOf97 rfl) rfl rfl rfl ?_
        refine V_alloc Tryd.zeroValue97 rfl ?_
        intro b47 w48 h49
        refine V_storeNew h49 Tryd.sizeOf97 rfl rfl rfl rfl (by exact (List.forall_mem_cons.2 ⟨rfl, (List.forall_mem_cons.2 ⟨rfl, (List.forall_mem_cons.2 ⟨rfl, (List.forall_mem_cons.2 ⟨rfl, (fun _ h => nomatch h)⟩)⟩)⟩)⟩)) ?_
        intro w50 h51
        have hk53 := h51.kp
        have h52 : El (α := level_Test) A31 w50 b47 0 x42 := h51.el hA ⟨[.int .i64 x42.field], _, rfl, rfl, ⟨[.int .i64 x42.value.kind], _, rfl, rfl, ⟨[.int .i64 x42.value.int], _, rfl, rfl, rfl⟩⟩⟩
        have ht54 := Kp.tr hk53 hA hB
        replace hH := Hp.kp hH hk53
        replace h8 := El.tr h8 ht54
        replace h19 := Sl.tr h19 ht54
        replace h45 := El.tr h45 ht54
        replace hK := Tr.trans hK ht54
        replace hr22 := Tr.trans hr22 ht54
        replace hB := Nat.le_trans hB ht54.ex.size
        replace hA := ht54.new
        refine V_to (fun _ _ => rfl) ?_
        refine C_seq ?_
        refine C_seq ?_
        refine C_region ?_
        obtain ⟨h55, _⟩ := El_level_Test h52
        refine V_y (Y_loadA h55 Tryd.isAgg97 Tryd.sizeOf97 rfl) rfl rfl rfl ?_
        refine V_y (Y_move rfl) rfl rfl rfl ?_
        obtain ⟨x56, hx56, h34⟩ := Option.bind_eq_some_iff.1 h34
        refine V_call Tryd.call88 rfl rfl rfl rfl (level_checkTest_c w50 hA x42 s29 hx56) ?_
        rintro _ w57 ⟨rfl, hk58⟩
        have ht59 := Kp.tr hk58 hA hB
        replace hH := Hp.kp hH hk58
        replace h8 := El.tr h8 ht59
        replace h19 := Sl.tr h19 ht59
        replace h52 := El.tr h52 ht59
        replace hK := Tr.trans hK ht59
        replace hr22 := Tr.trans hr22 ht59
        replace hB := Nat.le_trans hB ht59.ex.size
        replace hA := ht59.new
        refine V_y (Y_assign rfl) rfl rfl rfl ?_
        refine V_to (fun _ _ => rfl) ?_
        refine C_seq ?_
        refine C_region ?_
        refine V_y (Y_move rfl) rfl rfl rfl ?_
        refine V_y (Y_neq rfl rfl) rfl rfl rfl ?_
        refine V_to (fun _ _ => rfl) ?_
        refine C_cond rfl (fun hc60 => ?_) (fun hc60 => ?_)
        · rw [if_pos hc60] at h34
          refine C_seq ?_
          refine C_region ?_
          refine V_y (Y_move rfl) rfl rfl rfl ?_
          refine V_y (Y_assign rfl) rfl rfl rfl ?_
          refine V_to (fun _ _ => rfl) ?_
          obtain rfl := Option.some.inj h34
          obtain rfl := (h35 : Lp.rt _ = _)
          rw [Lp.andThen_rt] at hm
          obtain rfl := Option.some.inj hm
          refine C_ret ?_
          try simp only [↓inBlock_ret, ↓then_ret]
          exact retQ rfl (Res.one Tryd.results56 rfl) ⟨rfl, hK.kp⟩
        · rw [if_neg (nt hc60)] at h34
          refine C_skip_to (fun _ _ => rfl) ?_
          refine C_region ?_
          have h61 := El_level_Test_0 h52
          refine V_y (Y_fieldAddr Tryd.underlying97 rfl Tryd.sizeOf3 (by decide) rfl) rfl rfl rfl ?_
          refine V_y (Y_load (El.int h61) Tryd.isAgg3 rfl) rfl rfl rfl ?_
          refine V_y (Y_assign rfl) rfl rfl rfl ?_
          refine V_to (fun _ _ => rfl) ?_
          refine C_region ?_
          refine V_y (Y_addI rfl rfl) rfl rfl rfl ?_
          refine V_y (Y_move rfl) rfl rfl rfl ?_
          obtain rfl := Option.some.inj h34
          refine V_end (fun a ha62 => ?_)
          exact ⟨x42.field, hlt37, h35, ⟨A31, ha62.sub ⟨rfl, rfl, rfl, rfl, (congrArg (fun z => some (Value.int .i64 z)) (w64_succ hlt37 hn40)), trivial⟩, ⟨hH, hr22⟩⟩⟩
      · refine C_exit (fun a ha63 => ?_)
        exact ⟨(s29, A31), ha63.sub ⟨rfl, trivial⟩, ⟨(h38 (eq_of_dec hle36 hc41)).symm, hH, hr22⟩⟩
    rintro ⟨s21, A27⟩ w24 ⟨rfl, hH28, hk25⟩ a ha26
    rw [Lp.andThen_fin] at hm
    replace h8 := El.tr h8 hk25
    replace hK := Tr.trans hK hk25
    replace hB := Nat.le_trans hB hk25.ex.size
    replace hA := hk25.new
    replace hH : Hp w.heap.size A27 w24 ([]) := hH28
    refine C_at (n := ⟨68, [], none⟩) (fun _ _ => rfl) ?_ ha26
    refine C_seq ?_
    refine C_seq ?_
    refine C_region ?_
    have h65 := El_level_Level_2 h8
    refine V_y (Y_fieldAddr Tryd.underlying93 rfl Tryd.sizeOf91 (by decide) rfl) rfl rfl rfl ?_
    obtain ⟨v66, h67, h68⟩ := El.list h65
    refine V_y (Y_load h67 Tryd.isAgg91 rfl) rfl rfl rfl ?_
    refine V_y (Y_lenSl h68 rfl Tryd.underlying91 rfl) rfl rfl rfl ?_
    refine V_y (Y_move rfl) rfl rfl rfl ?_
    refine V_to (fun _ _ => rfl) ?_
    have hn89 := Sl.le h68
    obtain ⟨o69, ho69, hm⟩ := Option.bind_eq_some_iff.1 hm
    refine C_cutG (ι := (Unit × (Nat → Prop))) (fun ⟨s70, A76⟩ => []) (fun ⟨s70, A76⟩ => fun w' => o69 = .fin s70 ∧ Hp w.heap.size A76 w' ([]) ∧ Tr w.heap.size A27 w24 A76 w') ?_ ?_
    · refine C_block ?_
      refine C_range ho69 (fun k72 _ a w' => ∃ i : (Nat → Prop), Has ⟨68, [], none⟩ a ([(1, .pointer (some ⟨b5, 0, none⟩)), (30, v66), (31, .int .i64 (l.targets.length : Int)), (32, .int .i64 (k72 : Int))]) ∧ Hp w.heap.size i w' ([]) ∧ Tr w.heap.size A27 w24 i w') (fun a ha => ⟨A27, ha.sub ⟨rfl, rfl, rfl, rfl, trivial⟩, ⟨hH, Tr.refl hA⟩⟩) ?_
      rintro K k72 _ a w79 ⟨A80, ha130, hH81, hr71⟩ hle85 K88 h87
      refine C_of ?_ ha130
      replace h8 := El.tr h8 hr71
      replace h68 := Sl.tr h68 hr71
      replace hK := Tr.trans hK hr71
      replace hB := Nat.le_trans hB hr71.ex.size
      replace hA := hr71.new
      replace hH : Hp w.heap.size A80 w79 ([]) := hH81
      refine C_seq (C_region (V_y (Y_lss rfl rfl) rfl rfl rfl (V_to (fun _ _ => rfl) ?_)))
      refine C_seq ?_
      refine C_cond rfl (fun hc90 => ?_) (fun hc90 => ?_)
      · have hlt86 := lt_of_dec hc90
        obtain ⟨x82, h83, h84⟩ := K88 hlt86
        refine C_skip_to (fun _ _ => rfl) ?_
        refine C_seq ?_
        refine C_block ?_
        refine C_seq ?_
        refine C_region ?_
        refine V_y (Y_move rfl) rfl rfl rfl ?_
        obtain ⟨x91, hx91, h83⟩ := Option.bind_eq_some_iff.1 h83
        refine V_indexAddr h68 hx91 Tryd.underlying91 Tryd.sizeOf100 rfl rfl rfl ?_
        intro b92 o93 h94
        obtain ⟨h95, _⟩ := El_level_Target h94
        refine V_y (Y_loadA h95 Tryd.isAgg100 Tryd.sizeOf100 rfl) rfl rfl rfl ?_
        refine V_alloc Tryd.zeroValue100 rfl ?_
        intro b96 w97 h98
        refine V_y (Y_assign rfl) rfl rfl rfl ?_
        refine V_storeNew h98 Tryd.sizeOf100 rfl rfl rfl rfl (by exact (List.forall_mem_cons.2 ⟨rfl, (List.forall_mem_cons.2 ⟨rfl, (List.forall_mem_cons.2 ⟨rfl, (fun _ h => nomatch h)⟩)⟩)⟩)) ?_
        intro w99 h100
        have hk102 := h100.kp
        have h101 : El (α := level_Target) A80 w99 b96 0 x91 := h100.el hA ⟨[.int .i64 x91.kind], _, rfl, rfl, ⟨[.int .i64 x91.minutes], _, rfl, rfl, rfl⟩⟩
        have ht103 := Kp.tr hk102 hA hB
        replace hH := Hp.kp hH hk102
        replace h8 := El.tr h8 ht103
        replace h68 := Sl.tr h68 ht103
        replace h94 := El.tr h94 ht103
        replace hK := Tr.trans hK ht103
        replace hr71 := Tr.trans hr71 ht103
        replace hB := Nat.le_trans hB ht103.ex.size
        replace hA := ht103.new
        refine V_to (fun _ _ => rfl) ?_
        refine C_seq ?_
        refine C_seq ?_
        refine C_region ?_
        have h104 := El_level_Target_0 h101
        refine V_y (Y_fieldAddr Tryd.underlying100 rfl Tryd.sizeOf3 (by decide) rfl) rfl rfl rfl ?_
        refine V_y (Y_load (El.int h104) Tryd.isAgg3 rfl) rfl rfl rfl ?_
        refine V_call Tryd.call50 rfl rfl rfl rfl (level_within_c w99 x91.kind 1 3) ?_
        rintro _ _ ⟨rfl, rfl⟩
        refine V_y (Y_not rfl) rfl rfl rfl ?_
        refine V_y (Y_move rfl) rfl rfl rfl ?_
        refine V_cut 5 (fun _ : Unit => [(1, .pointer (some ⟨b5, 0, none⟩)), (7, .int .i64 (k72 : Int)), (8, .pointer (some ⟨b96, 0, none⟩)), (30, v66), (31, .int .i64 (l.targets.length : Int)), (32, .int .i64 (k72 : Int)), (46, .bool ((!(level_within x91.kind 1 3)) || (!(level_within x91.minutes 0 100000))))]) (fun _ w' => w99 = w') ?_ ?_
        · simp only [List.take, List.drop]
          rcases Bool.eq_false_or_eq_true (!(level_within x91.kind 1 3)) with hc105 | hc105
          · refine V_gn rfl rfl rfl hc105 rfl rfl rfl ?_
            refine V_gn rfl rfl rfl hc105 rfl rfl rfl ?_
            refine V_gn rfl rfl rfl hc105 rfl rfl rfl ?_
            refine V_gn rfl rfl rfl hc105 rfl rfl rfl ?_
            refine V_y (Y_pick_te rfl hc105 rfl) rfl rfl rfl ?_
            exact V_end fun a ha => ⟨(), ha.sub ⟨rfl, rfl, rfl, rfl, rfl, rfl, (by rw [hc105]; rfl), trivial⟩, rfl⟩
          · refine V_ge rfl rfl rfl hc105 ?_
            have h107 := El_level_Target_1 h101
            refine V_y (Y_fieldAddr Tryd.underlying100 rfl Tryd.sizeOf3 (by decide) rfl) rfl rfl rfl ?_
            refine V_ge rfl rfl rfl hc105 ?_
            refine V_y (Y_load (El.int h107) Tryd.isAgg3 rfl) rfl rfl rfl ?_
            refine V_ge rfl rfl rfl hc105 ?_
            refine V_call Tryd.call50 rfl rfl rfl rfl (level_within_c w99 x91.minutes 0 100000) ?_
            rintro _ _ ⟨rfl, rfl⟩
            refine V_ge rfl rfl rfl hc105 ?_
            refine V_y (Y_not rfl) rfl rfl rfl ?_
            refine V_y (Y_pick_fe rfl hc105 rfl) rfl rfl rfl ?_
            exact V_end fun a ha => ⟨(), ha.sub ⟨rfl, rfl, rfl, rfl, rfl, rfl, (by rw [hc105]; rfl), trivial⟩, rfl⟩
        simp only [List.take, List.drop]
        rintro _ _ rfl
        refine V_y (Y_move rfl) rfl rfl rfl ?_
        refine V_cut 5 (fun _ : Unit => [(1, .pointer (some ⟨b5, 0, none⟩)), (7, .int .i64 (k72 : Int)), (8, .pointer (some ⟨b96, 0, none⟩)), (30, v66), (31, .int .i64 (l.targets.length : Int)), (32, .int .i64 (k72 : Int)), (52, .bool (((!(level_within x91.kind 1 3)) || (!(level_within x91.minutes 0 100000))) || (!(level_within x91.calendar 0 19))))]) (fun _ w' => w99 = w') ?_ ?_
        · simp only [List.take, List.drop]
          rcases Bool.eq_false_or_eq_true (((!(level_within x91.kind 1 3)) || (!(level_within x91.minutes 0 100000)))) with hc108 | hc108
          · refine V_gn rfl rfl rfl hc108 rfl rfl rfl ?_
            refine V_gn rfl rfl rfl hc108 rfl rfl rfl ?_
            refine V_gn rfl rfl rfl hc108 rfl rfl rfl ?_
            refine V_gn rfl rfl rfl hc108 rfl rfl rfl ?_
            refine V_y (Y_pick_te rfl hc108 rfl) rfl rfl rfl ?_
            exact V_end fun a ha => ⟨(), ha.sub ⟨rfl, rfl, rfl, rfl, rfl, rfl, (by rw [hc108]; rfl), trivial⟩, rfl⟩
          · refine V_ge rfl rfl rfl hc108 ?_
            have h110 := El_level_Target_2 h101
            refine V_y (Y_fieldAddr Tryd.underlying100 rfl Tryd.sizeOf3 (by decide) rfl) rfl rfl rfl ?_
            refine V_ge rfl rfl rfl hc108 ?_
            refine V_y (Y_load (El.int h110) Tryd.isAgg3 rfl) rfl rfl rfl ?_
            refine V_ge rfl rfl rfl hc108 ?_
            refine V_call Tryd.call50 rfl rfl rfl rfl (level_within_c w99 x91.calendar 0 19) ?_
            rintro _ _ ⟨rfl, rfl⟩
            refine V_ge rfl rfl rfl hc108 ?_
            refine V_y (Y_not rfl) rfl rfl rfl ?_
            refine V_y (Y_pick_fe rfl hc108 rfl) rfl rfl rfl ?_
            exact V_end fun a ha => ⟨(), ha.sub ⟨rfl, rfl, rfl, rfl, rfl, rfl, (by rw [hc108]; rfl), trivial⟩, rfl⟩
        simp only [List.take, List.drop]
        rintro _ _ rfl
        refine V_to (fun _ _ => rfl) ?_
        refine C_cond rfl (fun hc111 => ?_) (fun hc111 => ?_)
        · rw [if_pos hc111] at h83
          refine C_seq ?_
          refine C_region ?_
          refine V_y (Y_assign rfl) rfl rfl rfl ?_
          refine V_to (fun _ _ => rfl) ?_
          obtain rfl := Option.some.inj h83
          obtain rfl := (h84 : Lp.rt _ = _)
          rw [Lp.andThen_rt] at hm
          obtain rfl := Option.some.inj hm
          refine C_ret ?_
          try simp only [↓inBlock_ret, ↓then_ret]
          exact retQ rfl (Res.one Tryd.results56 rfl) ⟨rfl, hK.kp⟩
        · rw [if_neg (nt hc111)] at h83
          refine C_skip_to (fun _ _ => rfl) ?_
          refine C_seq ?_
          refine C_region_q Tryd_mixed (by kernel_rfl) ?_
          refine VQ_y (fun w' hw' => Y_move rfl) rfl rfl rfl ?_
          refine VQ_y (fun w' hw' => Y_gtr rfl rfl) rfl rfl rfl ?_
          refine VQ_y (fun w' hw' => Y_move rfl) rfl rfl rfl ?_
          obtain ⟨s113, hs113, h83⟩ := Option.bind_eq_some_iff.1 h83
          refine VQ_cut 11 (fun _ : Unit => [(1, .pointer (some ⟨b5, 0, none⟩)), (30, v66), (31, .int .i64 (l.targets.length : Int)), (32, .int .i64 (k72 : Int)), (66, .bool s113)]) (fun _ => True) ?_ ?_
          · simp only [List.take, List.drop]
            rcases Bool.eq_false_or_eq_true (decide ((0 : Int) < (k72 : Int))) with hc112 | hc112
            · rw [if_pos hc112] at hs113
              refine VQ_ge rfl rfl rfl hc112 ?_
              have h114 := El_level_Target_0 h101
              refine VQ_y (fun w' hw' => Y_fieldAddr Tryd.underlying100 rfl Tryd.sizeOf3 (by decide) rfl) rfl rfl rfl ?_
              refine VQ_ge rfl rfl rfl hc112 ?_
              refine VQ_y (fun w' hw' => Y_load (El.int (El.kp h114 hw')) Tryd.isAgg3 rfl) rfl rfl rfl ?_
              refine VQ_ge rfl rfl rfl hc112 ?_
              have h115 := El_level_Level_2 h8
              refine VQ_y (fun w' hw' => Y_fieldAddr Tryd.underlying93 rfl Tryd.sizeOf91 (by decide) rfl) rfl rfl rfl ?_
              refine VQ_ge rfl rfl rfl hc112 ?_
              obtain ⟨v116, h117, h118⟩ := El.list h115
              refine VQ_y (fun w' hw' => Y_load ((World.cell?_of_block (hw'.block _ (World.block_lt_of_cell? _ _ h117))).trans h117) Tryd.isAgg91 rfl) rfl rfl rfl ?_
              refine VQ_ge rfl rfl rfl hc112 ?_
              refine VQ_y (fun w' hw' => Y_move rfl) rfl rfl rfl ?_
              refine VQ_ge rfl rfl rfl hc112 ?_
              refine VQ_y (fun w' hw' => Y_subI rfl rfl) rfl rfl rfl ?_
              refine VQ_ge rfl rfl rfl hc112 ?_
              obtain ⟨x119, hx119, hs113⟩ := Option.bind_eq_some_iff.1 hs113
              refine VQ_indexAddr h118 hx119 Tryd.underlying91 Tryd.sizeOf100 rfl rfl rfl ?_
              intro b120 o121 h122
              refine VQ_ge rfl rfl rfl hc112 ?_
              have h123 := El_level_Target_0 h122
              refine VQ_y (fun w' hw' => Y_fieldAddr Tryd.underlying100 rfl Tryd.sizeOf3 (by decide) rfl) rfl rfl rfl ?_
              refine VQ_ge rfl rfl rfl hc112 ?_
              refine VQ_y (fun w' hw' => Y_load (El.int (El.kp h123 hw')) Tryd.isAgg3 rfl) rfl rfl rfl ?_
              refine VQ_ge rfl rfl rfl hc112 ?_
              refine VQ_y (fun w' hw' => Y_leq rfl rfl) rfl rfl rfl ?_
              refine VQ_y (fun _ _ => Y_pick_te rfl hc112 rfl) rfl rfl rfl ?_
              obtain rfl := Option.some.inj hs113
              exact VQ_end fun a ha => ⟨(), ha.sub ⟨rfl, rfl, rfl, rfl, rfl, trivial⟩, trivial⟩
            · rw [if_neg (nt hc112)] at hs113
              refine VQ_gn rfl rfl rfl hc112 rfl rfl rfl ?_
              refine VQ_gn rfl rfl rfl hc112 rfl rfl rfl ?_
              refine VQ_gn rfl rfl rfl hc112 rfl rfl rfl ?_
              refine VQ_gn rfl rfl rfl hc112 rfl rfl rfl ?_
              refine VQ_gn rfl rfl rfl hc112 rfl rfl rfl ?_
              refine VQ_gn rfl rfl rfl hc112 rfl rfl rfl ?_
              refine VQ_gn rfl rfl rfl hc112 rfl rfl rfl ?_
              refine VQ_gn rfl rfl rfl hc112 rfl rfl rfl ?_
              refine VQ_gn rfl rfl rfl hc112 rfl rfl rfl ?_
              refine VQ_gn rfl rfl rfl hc112 rfl rfl rfl ?_
              refine VQ_y (fun _ _ => Y_pick_fe rfl hc112 rfl) rfl rfl rfl ?_
              obtain rfl := Option.some.inj hs113
              exact VQ_end fun a ha => ⟨(), ha.sub ⟨rfl, rfl, rfl, rfl, rfl, trivial⟩, trivial⟩
          simp only [List.take, List.drop]
          rintro _ _
          refine VQ_to (fun _ _ => rfl) (fun w124 hk125 => ?_)
          have ht126 := Kp.tr hk125 hA hB
          replace hH := Hp.kp hH hk125
          replace h8 := El.tr h8 ht126
          replace h68 := Sl.tr h68 ht126
          replace hK := Tr.trans hK ht126
          replace hr71 := Tr.trans hr71 ht126
          replace hB := Nat.le_trans hB ht126.ex.size
          replace hA := ht126.new
          refine C_cond rfl (fun hc127 => ?_) (fun hc127 => ?_)
          · rw [if_pos hc127] at h83
            refine C_seq ?_
            refine C_region ?_
            refine V_y (Y_assign rfl) rfl rfl rfl ?_
            refine V_to (fun _ _ => rfl) ?_
            obtain rfl := Option.some.inj h83
            obtain rfl := (h84 : Lp.rt _ = _)
            rw [Lp.andThen_rt] at hm
            obtain rfl := Option.some.inj hm
            refine C_ret ?_
            try simp only [↓inBlock_ret, ↓then_ret]
            exact retQ rfl (Res.one Tryd.results56 rfl) ⟨rfl, hK.kp⟩
          · rw [if_neg (nt hc127)] at h83
            refine C_skip_to (fun _ _ => rfl) ?_
            refine C_region ?_
            refine V_y (Y_addI rfl rfl) rfl rfl rfl ?_
            refine V_y (Y_move rfl) rfl rfl rfl ?_
            obtain rfl := Option.some.inj h83
            refine V_end (fun a ha128 => ?_)
            exact ⟨(), hlt86, h84, ⟨A80, ha128.sub ⟨rfl, rfl, rfl, (congrArg (fun z => some (Value.int .i64 z)) (w64_succ hlt86 hn89)), trivial⟩, ⟨hH, hr71⟩⟩⟩
      · refine C_exit (fun a ha129 => ?_)
        exact ⟨((), A80), ha129.sub trivial, ⟨(h87 (eq_of_dec hle85 hc90)).symm, hH, hr71⟩⟩
    rintro ⟨s70, A76⟩ w73 ⟨rfl, hH77, hk74⟩ a ha75
    rw [Lp.andThen_fin] at hm
    replace hK := Tr.trans hK hk74
    replace hB := Nat.le_trans hB hk74.ex.size
    replace hA := hk74.new
    replace hH : Hp w.heap.size A76 w73 ([]) := hH77
    refine C_at (n := ⟨68, [], none⟩) (fun _ _ => rfl) ?_ ha75
    refine C_seq ?_
    refine C_region ?_
    refine V_y (Y_assign rfl) rfl rfl rfl ?_
    refine V_to (fun _ _ => rfl) ?_
    obtain rfl := Option.some.inj hm
    refine C_ret ?_
    try simp only [↓inBlock_ret, ↓then_ret]
    exact retQ rfl (Res.one Tryd.results56 rfl) ⟨rfl, hK.kp⟩

set_option maxRecDepth 4000 in
set_option maxHeartbeats 4000000 in
theorem level_CheckPolicy_c (w : World) {A : Nat → Prop} (hA : ∀ b, w.heap.size ≤ b → A b) (p : level_Policy) (v_p0 : Value) (h_p0 : Sl A w v_p0 p.pauses) (v_p1 : Value) (h_p1 : Sl A w v_p1 p.levels) {r : Int} (hm : level_CheckPolicy p = some r) : Ret Tryd.prog 22 #[.agg #[v_p0, v_p1]] w fun v w' => v = .int .i64 r ∧ Kp w w' := by
  unfold level_CheckPolicy at hm
  refine enter Tryd.func22 rfl Tryd.ntmps22 rfl ?_
  have hA0 := hA
  have hB := Nat.le_refl w.heap.size
  have hK : Tr w.heap.size A w A w := Tr.refl hA
  have hH : Hp w.heap.size A w [] := Hp.nil
  refine C_seq ?_
  refine C_region ?_
  refine V_box rfl rfl ?_
  intro b5 w6 h7
  have hk9 := h7.kp
  have h8 : El (α := level_Policy) A w6 b5 0 p := h7.el hA ⟨[v_p0], _, rfl, ⟨_, rfl, h_p0⟩, ⟨_, rfl, h_p1⟩⟩
  have ht10 := Kp.tr hk9 hA hB
  replace hH := Hp.kp hH hk9
  replace h_p0 := Sl.tr h_p0 ht10
  replace h_p1 := Sl.tr h_p1 ht10
  replace hK := Tr.trans hK ht10
  replace hB := Nat.le_trans hB ht10.ex.size
  replace hA := ht10.new
  refine V_y (Y_assign rfl) rfl rfl rfl ?_
  refine V_to (fun _ _ => rfl) ?_
  refine C_seq ?_
  refine C_seq ?_
  refine C_region ?_
  have h11 := El_level_Policy_0 h8
  refine V_y (Y_fieldAddr Tryd.underlying39 rfl Tryd.sizeOf28 (by decide) rfl) rfl rfl rfl ?_
  obtain ⟨v12, h13, h14⟩ := El.list h11
  refine V_y (Y_load h13 Tryd.isAgg28 rfl) rfl rfl rfl ?_
  refine V_y (Y_lenSl h14 rfl Tryd.underlying28 rfl) rfl rfl rfl ?_
  refine V_y (Y_move rfl) rfl rfl rfl ?_
  refine V_to (fun _ _ => rfl) ?_
  have hn31 := Sl.le h14
  obtain ⟨o15, ho15, hm⟩ := Option.bind_eq_some_iff.1 hm
  refine C_cutG (ι := Unit) (fun (s16 : Unit) => [(1, .pointer (some ⟨b5, 0, none⟩))]) (fun (s16 : Unit) => fun w' => o15 = .fin s16 ∧ w6 = w') ?_ ?_
  · refine C_block ?_
    refine C_range ho15 (fun k18 _ a w' => ∃ i : Unit, Has ⟨62, [], none⟩ a ([(1, .pointer (some ⟨b5, 0, none⟩)), (10, v12), (11, .int .i64 (p.pauses.length : Int)), (12, .int .i64 (k18 : Int))]) ∧ w6 = w') (fun a ha => ⟨(), ha.sub ⟨rfl, rfl, rfl, rfl, trivial⟩, rfl⟩) ?_
    rintro K k18 _ a _ ⟨_, ha51, rfl⟩ hle27 K30 h29
    refine C_of ?_ ha51
    refine C_seq (C_region (V_y (Y_lss rfl rfl) rfl rfl rfl (V_to (fun _ _ => rfl) ?_)))
    refine C_seq ?_
    refine C_cond rfl (fun hc32 => ?_) (fun hc32 => ?_)
    · have hlt28 := lt_of_dec hc32
      obtain ⟨x24, h25, h26⟩ := K30 hlt28
      refine C_skip_to (fun _ _ => rfl) ?_
      refine C_seq ?_
      refine C_block ?_
      refine C_seq ?_
      refine C_region ?_
      refine V_y (Y_move rfl) rfl rfl rfl ?_
      obtain ⟨x33, hx33, h25⟩ := Option.bind_eq_some_iff.1 h25
      refine V_indexAddr h14 hx33 Tryd.underlying28 Tryd.sizeOf3 rfl rfl rfl ?_
      intro b34 o35 h36
      refine V_y (Y_load (El.int h36) Tryd.isAgg3 rfl) rfl rfl rfl ?_
      refine V_y (Y_assign rfl) rfl rfl rfl ?_
      refine V_y (Y_assign rfl) rfl rfl rfl ?_
      refine V_to (fun _ _ => rfl) ?_
      refine C_seq ?_
      refine C_seq ?_
      refine C_region ?_
      refine V_y (Y_move rfl) rfl rfl rfl ?_
      refine V_call Tryd.call50 rfl rfl rfl rfl (level_within_c w6 x33 1 4) ?_
      rintro _ _ ⟨rfl, rfl⟩
      refine V_y (Y_not rfl) rfl rfl rfl ?_
      refine V_to (fun _ _ => rfl) ?_
      refine C_cond rfl (fun hc37 => ?_) (fun hc37 => ?_)
      · rw [if_pos hc37] at h25
        refine C_seq ?_
        refine C_region ?_
        refine V_y (Y_assign rfl) rfl rfl rfl ?_
        refine V_to (fun _ _ => rfl) ?_
        obtain rfl := Option.some.inj h25
        obtain rfl := (h26 : Lp.rt _ = _)
        rw [Lp.andThen_rt] at hm
        obtain rfl := Option.some.inj hm
        refine C_ret ?_
        try simp only [↓inBlock_ret, ↓then_ret]
        exact retQ rfl (Res.one Tryd.results22 rfl) ⟨rfl, hK.kp⟩
      · rw [if_neg (nt hc37)] at h25
        refine C_skip_to (fun _ _ => rfl) ?_
        refine C_seq ?_
        refine C_region ?_
        refine V_y (Y_move rfl) rfl rfl rfl ?_
        refine V_y (Y_gtr rfl rfl) rfl rfl rfl ?_
        refine V_y (Y_move rfl) rfl rfl rfl ?_
        obtain ⟨s39, hs39, h25⟩ := Option.bind_eq_some_iff.1 h25
        refine V_cut 9 (fun _ : Unit => [(1, .pointer (some ⟨b5, 0, none⟩)), (10, v12), (11, .int .i64 (p.pauses.length : Int)), (12, .int .i64 (k18 : Int)), (31, .bool s39)]) (fun _ w' => w6 = w') ?_ ?_
        · simp only [List.take, List.drop]
          rcases Bool.eq_false_or_eq_true (decide ((0 : Int) < (k18 : Int))) with hc38 | hc38
          · rw [if_pos hc38] at hs39
            refine V_ge rfl rfl rfl hc38 ?_
            refine V_y (Y_move rfl) rfl rfl rfl ?_
            refine V_ge rfl rfl rfl hc38 ?_
            have h40 := El_level_Policy_0 h8
            refine V_y (Y_fieldAddr Tryd.underlying39 rfl Tryd.sizeOf28 (by decide) rfl) rfl rfl rfl ?_
            refine V_ge rfl rfl rfl hc38 ?_
            obtain ⟨v41, h42, h43⟩ := El.list h40
            refine V_y (Y_load h42 Tryd.isAgg28 rfl) rfl rfl rfl ?_
            refine V_ge rfl rfl rfl hc38 ?_
            refine V_y (Y_move rfl) rfl rfl rfl ?_
            refine V_ge rfl rfl rfl hc38 ?_
            refine V_y (Y_subI rfl rfl) rfl rfl rfl ?_
            refine V_ge rfl rfl rfl hc38 ?_
            obtain ⟨x44, hx44, hs39⟩ := Option.bind_eq_some_iff.1 hs39
            refine V_indexAddr h43 hx44 Tryd.underlying28 Tryd.sizeOf3 rfl rfl rfl ?_
            intro b45 o46 h47
            refine V_ge rfl rfl rfl hc38 ?_
            refine V_y (Y_load (El.int h47) Tryd.isAgg3 rfl) rfl rfl rfl ?_
            refine V_ge rfl rfl rfl hc38 ?_
            refine V_y (Y_leq rfl rfl) rfl rfl rfl ?_
            refine V_y (Y_pick_te rfl hc38 rfl) rfl rfl rfl ?_
            obtain rfl := Option.some.inj hs39
            exact V_end fun a ha => ⟨(), ha.sub ⟨rfl, rfl, rfl, rfl, rfl, trivial⟩, rfl⟩
          · rw [if_neg (nt hc38)] at hs39
            refine V_gn rfl rfl rfl hc38 rfl rfl rfl ?_
            refine V_gn rfl rfl rfl hc38 rfl rfl rfl ?_
            refine V_gn rfl rfl rfl hc38 rfl rfl rfl ?_
            refine V_gn rfl rfl rfl hc38 rfl rfl rfl ?_
            refine V_gn rfl rfl rfl hc38 rfl rfl rfl ?_
            refine V_gn rfl rfl rfl hc38 rfl rfl rfl ?_
            refine V_gn rfl rfl rfl hc38 rfl rfl rfl ?_
            refine V_gn rfl rfl rfl hc38 rfl rfl rfl ?_
            refine V_y (Y_pick_fe rfl hc38 rfl) rfl rfl rfl ?_
            obtain rfl := Option.some.inj hs39
            exact V_end fun a ha => ⟨(), ha.sub ⟨rfl, rfl, rfl, rfl, rfl, trivial⟩, rfl⟩
        simp only [List.take, List.drop]
        rintro _ _ rfl
        refine V_to (fun _ _ => rfl) ?_
        refine C_cond rfl (fun hc48 => ?_) (fun hc48 => ?_)
        · rw [if_pos hc48] at h25
          refine C_seq ?_
          refine C_region ?_
          refine V_y (Y_assign rfl) rfl rfl rfl ?_
          refine V_to (fun _ _ => rfl) ?_
          obtain rfl := Option.some.inj h25
          obtain rfl := (h26 : Lp.rt _ = _)
          rw [Lp.andThen_rt] at hm
          obtain rfl := Option.some.inj hm
          refine C_ret ?_
          try simp only [↓inBlock_ret, ↓then_ret]
          exact retQ rfl (Res.one Tryd.results22 rfl) ⟨rfl, hK.kp⟩
        · rw [if_neg (nt hc48)] at h25
          refine C_skip_to (fun _ _ => rfl) ?_
          refine C_region ?_
          refine V_y (Y_addI rfl rfl) rfl rfl rfl ?_
          refine V_y (Y_move rfl) rfl rfl rfl ?_
          obtain rfl := Option.some.inj h25
          refine V_end (fun a ha49 => ?_)
          exact ⟨(), hlt28, h26, ⟨(), ha49.sub ⟨rfl, rfl, rfl, (congrArg (fun z => some (Value.int .i64 z)) (w64_succ hlt28 hn31)), trivial⟩, rfl⟩⟩
    · refine C_exit (fun a ha50 => ?_)
      exact ⟨(), ha50.sub ⟨rfl, trivial⟩, ⟨(h29 (eq_of_dec hle27 hc32)).symm, rfl⟩⟩
  rintro s16 _ ⟨rfl, rfl⟩ a ha21
  rw [Lp.andThen_fin] at hm
  refine C_at (n := ⟨62, [], none⟩) (fun _ _ => rfl) ?_ ha21
  refine C_seq ?_
  refine C_seq ?_
  refine C_region ?_
  have h52 := El_level_Policy_1 h8
  refine V_y (Y_fieldAddr Tryd.underlying39 rfl Tryd.sizeOf37 (by decide) rfl) rfl rfl rfl ?_
  obtain ⟨v53, h54, h55⟩ := El.list h52
  refine V_y (Y_load h54 Tryd.isAgg37 rfl) rfl rfl rfl ?_
  refine V_y (Y_lenSl h55 rfl Tryd.underlying37 rfl) rfl rfl rfl ?_
  refine V_y (Y_gtr rfl rfl) rfl rfl rfl ?_
  refine V_to (fun _ _ => rfl) ?_
  refine C_cond rfl (fun hc56 => ?_) (fun hc56 => ?_)
  · rw [if_pos hc56] at hm
    refine C_seq ?_
    refine C_region ?_
    refine V_y (Y_assign rfl) rfl rfl rfl ?_
    refine V_to (fun _ _ => rfl) ?_
    obtain rfl := Option.some.inj hm
    refine C_ret ?_
    try simp only [↓inBlock_ret, ↓then_ret]
    exact retQ rfl (Res.one Tryd.results22 rfl) ⟨rfl, hK.kp⟩
  · rw [if_neg (nt hc56)] at hm
    refine C_skip_to (fun _ _ => rfl) ?_
    refine C_seq ?_
    refine C_region ?_
    refine V_makeMapS (B := w.heap.size) Bool hH hB hA rfl ?_
    intro b57 w58 A59 hH60 ht61
    replace h8 := El.tr h8 ht61
    replace hK := Tr.trans hK ht61
    replace hB := Nat.le_trans hB ht61.ex.size
    replace hA := ht61.new
    replace hH : Hp w.heap.size A59 w58 (obSM (α := Bool) b57 ([] : List (ByteArray × Bool)) :: []) := hH60
    refine V_y (Y_assign rfl) rfl rfl rfl ?_
    refine V_to (fun _ _ => rfl) ?_
    refine C_seq ?_
    refine C_seq ?_
    refine C_region ?_
    have h62 := El_level_Policy_1 h8
    refine V_y (Y_fieldAddr Tryd.underlying39 rfl Tryd.sizeOf37 (by decide) rfl) rfl rfl rfl ?_
    obtain ⟨v63, h64, h65⟩ := El.list h62
    refine V_y (Y_load h64 Tryd.isAgg37 rfl) rfl rfl rfl ?_
    refine V_y (Y_lenSl h65 rfl Tryd.underlying37 rfl) rfl rfl rfl ?_
    refine V_y (Y_move rfl) rfl rfl rfl ?_
    refine V_to (fun _ _ => rfl) ?_
    have hn86 := Sl.le h65
    obtain ⟨o66, ho66, hm⟩ := Option.bind_eq_some_iff.1 hm
    refine C_cutG (ι := ((List (ByteArray × Bool)) × (Nat → Prop))) (fun ⟨s67, A73⟩ => []) (fun ⟨s67, A73⟩ => fun w' => o66 = .fin s67 ∧ Hp w.heap.size A73 w' (obSM (α := Bool) b57 s67 :: []) ∧ Tr w.heap.size A59 w58 A73 w') ?_ ?_
    · refine C_block ?_
      refine C_range ho66 (fun k69 s75 a w' => ∃ i : (Nat → Prop), Has ⟨62, [], none⟩ a ([(5, .map (some b57)), (39, v63), (40, .int .i64 (p.levels.length : Int)), (41, .int .i64 (k69 : Int))]) ∧ Hp w.heap.size i w' (obSM (α := Bool) b57 s75 :: []) ∧ Tr w.heap.size A59 w58 i w') (fun a ha => ⟨A59, ha.sub ⟨rfl, rfl, rfl, rfl, trivial⟩, ⟨hH, Tr.refl hA⟩⟩) ?_
      rintro K k69 s75 a w76 ⟨A77, ha132, hH78, hr68⟩ hle82 K85 h84
      refine C_of ?_ ha132
      replace h65 := Sl.tr h65 hr68
      replace hK := Tr.trans hK hr68
      replace hB := Nat.le_trans hB hr68.ex.size
      replace hA := hr68.new
      replace hH : Hp w.heap.size A77 w76 (obSM (α := Bool) b57 s75 :: []) := hH78
      refine C_seq (C_region (V_y (Y_lss rfl rfl) rfl rfl rfl (V_to (fun _ _ => rfl) ?_)))
      refine C_seq ?_
      refine C_cond rfl (fun hc87 => ?_) (fun hc87 => ?_)
      · have hlt83 := lt_of_dec hc87
        obtain ⟨x79, h80, h81⟩ := K85 hlt83
        refine C_skip_to (fun _ _ => rfl) ?_
        refine C_seq ?_
        refine C_block ?_
        refine C_seq ?_
        refine C_region ?_
        obtain ⟨x88, hx88, h80⟩ := Option.bind_eq_some_iff.1 h80
        refine V_indexAddr h65 hx88 Tryd.underlying37 Tryd.sizeOf93 rfl rfl rfl ?_
        intro b89 o90 h91
        obtain ⟨v92, v94, h96, h93, h95⟩ := El_level_Level h91
        refine V_y (Y_loadA h96 Tryd.isAgg93 Tryd.sizeOf93 rfl) rfl rfl rfl ?_
        refine V_alloc Tryd.zeroValue93 rfl ?_
        intro b97 w98 h99
        have h104 : (v92).oneCell' = true := by obtain ⟨_, _, e, _⟩ := Sl.form h93; rw [e]; rfl
        have h107 : (v94).oneCell' = true := by obtain ⟨_, _, e, _⟩ := Sl.form h95; rw [e]; rfl
        refine V_storeNew h99 Tryd.sizeOf93 rfl rfl rfl rfl (by exact (List.forall_mem_cons.2 ⟨rfl, (List.forall_mem_cons.2 ⟨h104, (List.forall_mem_cons.2 ⟨h107, (fun _ h => nomatch h)⟩)⟩)⟩)) ?_
        intro w100 h101
        have hk109 := h101.kp
        have h108 : El (α := level_Level) A77 w100 b97 0 x88 := h101.el hA ⟨[.string x88.name], _, rfl, rfl, ⟨[v92], _, rfl, ⟨_, rfl, h93⟩, ⟨_, rfl, h95⟩⟩⟩
        have ht110 := Kp.tr hk109 hA hB
        replace hH := Hp.kp hH hk109
        replace h65 := Sl.tr h65 ht110
        replace h91 := El.tr h91 ht110
        replace h93 := Sl.tr h93 ht110
        replace h95 := Sl.tr h95 ht110
        replace hK := Tr.trans hK ht110
        replace hr68 := Tr.trans hr68 ht110
        replace hB := Nat.le_trans hB ht110.ex.size
        replace hA := ht110.new
        refine V_to (fun _ _ => rfl) ?_
        refine C_seq ?_
        refine C_seq ?_
        refine C_region ?_
        have h111 := El_level_Level_0 h108
        refine V_y (Y_fieldAddr Tryd.underlying93 rfl Tryd.sizeOf9 (by decide) rfl) rfl rfl rfl ?_
        refine V_y (Y_load (El.str h111) Tryd.isAgg9 rfl) rfl rfl rfl ?_
        obtain ⟨x112, hx112, h80⟩ := Option.bind_eq_some_iff.1 h80
        refine V_call Tryd.call55 rfl rfl rfl rfl (level_name_c w100 x88.name hx112) ?_
        rintro _ _ ⟨rfl, rfl⟩
        refine V_y (Y_not rfl) rfl rfl rfl ?_
        refine V_to (fun _ _ => rfl) ?_
        refine C_cond rfl (fun hc113 => ?_) (fun hc113 => ?_)
        · rw [if_pos hc113] at h80
          refine C_seq ?_
          refine C_region ?_
          refine V_y (Y_assign rfl) rfl rfl rfl ?_
          refine V_to (fun _ _ => rfl) ?_
          obtain rfl := Option.some.inj h80
          obtain rfl := (h81 : Lp.rt _ = _)
          rw [Lp.andThen_rt] at hm
          obtain rfl := Option.some.inj hm
          refine C_ret ?_
          try simp only [↓inBlock_ret, ↓then_ret]
          exact retQ rfl (Res.one Tryd.results22 rfl) ⟨rfl, hK.kp⟩
        · rw [if_neg (nt hc113)] at h80
          refine C_skip_to (fun _ _ => rfl) ?_
          refine C_seq ?_
          refine C_seq ?_
          refine C_region ?_
          refine V_y (Y_move rfl) rfl rfl rfl ?_
          have h114 := El_level_Level_0 h108
          refine V_y (Y_fieldAddr Tryd.underlying93 rfl Tryd.sizeOf9 (by decide) rfl) rfl rfl rfl ?_
          refine V_y (Y_load (El.str h114) Tryd.isAgg9 rfl) rfl rfl rfl ?_
          refine V_lookupS (α := Bool) (z := false) (l := s75) hH (i := 0) rfl Tryd.underlying104 Tryd.underlying9 Tryd.zeroValue4 rfl rfl rfl rfl ?_
          refine V_to (fun _ _ => rfl) ?_
          refine C_cond rfl (fun hc115 => ?_) (fun hc115 => ?_)
          · rw [if_pos hc115] at h80
            refine C_seq ?_
            refine C_region ?_
            refine V_y (Y_assign rfl) rfl rfl rfl ?_
            refine V_to (fun _ _ => rfl) ?_
            obtain rfl := Option.some.inj h80
            obtain rfl := (h81 : Lp.rt _ = _)
            rw [Lp.andThen_rt] at hm
            obtain rfl := Option.some.inj hm
            refine C_ret ?_
            try simp only [↓inBlock_ret, ↓then_ret]
            exact retQ rfl (Res.one Tryd.results22 rfl) ⟨rfl, hK.kp⟩
          · rw [if_neg (nt hc115)] at h80
            refine C_skip_to (fun _ _ => rfl) ?_
            refine C_seq ?_
            refine C_region ?_
            refine V_y (Y_move rfl) rfl rfl rfl ?_
            have h116 := El_level_Level_0 h108
            refine V_y (Y_fieldAddr Tryd.underlying93 rfl Tryd.sizeOf9 (by decide) rfl) rfl rfl rfl ?_
            refine V_y (Y_load (El.str h116) Tryd.isAgg9 rfl) rfl rfl rfl ?_
            refine V_mapUpdateS (α := Bool) (l := s75) (c := true) hH (i := 0) rfl Tryd.underlying104 Tryd.underlying9 rfl rfl rfl hB hA ?_
            intro w117 hH118 ht119
            replace h65 := Sl.tr h65 ht119
            replace h108 := El.tr h108 ht119
            replace h116 := El.tr h116 ht119
            replace hK := Tr.trans hK ht119
            replace hr68 := Tr.trans hr68 ht119
            replace hB := Nat.le_trans hB ht119.ex.size
            replace hA := ht119.new
            replace hH : Hp w.heap.size A77 w117 (obSM (α := Bool) b57 (mapPut s75 x88.name true) :: []) := hH118
            refine V_to (fun _ _ => rfl) ?_
            refine C_seq ?_
            refine C_region ?_
            obtain ⟨v120, v122, h124, h121, h123⟩ := El_level_Level h108
            refine V_y (Y_loadA h124 Tryd.isAgg93 Tryd.sizeOf93 rfl) rfl rfl rfl ?_
            obtain ⟨x125, hx125, h80⟩ := Option.bind_eq_some_iff.1 h80
            refine V_call Tryd.call56 rfl rfl rfl rfl (level_checkLevel_c w117 hA x88 v120 h121 v122 h123 hx125) ?_
            rintro _ w126 ⟨rfl, hk127⟩
            have ht128 := Kp.tr hk127 hA hB
            replace hH := Hp.kp hH hk127
            replace h65 := Sl.tr h65 ht128
            replace h108 := El.tr h108 ht128
            replace h121 := Sl.tr h121 ht128
            replace h123 := Sl.tr h123 ht128
            replace hK := Tr.trans hK ht128
            replace hr68 := Tr.trans hr68 ht128
            replace hB := Nat.le_trans hB ht128.ex.size
            replace hA := ht128.new
            refine V_y (Y_assign rfl) rfl rfl rfl ?_
            refine V_to (fun _ _ => rfl) ?_
            refine C_seq ?_
            refine C_region ?_
            refine V_y (Y_move rfl) rfl rfl rfl ?_
            refine V_y (Y_neq rfl rfl) rfl rfl rfl ?_
            refine V_to (fun _ _ => rfl) ?_
            refine C_cond rfl (fun hc129 => ?_) (fun hc129 => ?_)
            · rw [if_pos hc129] at h80
              refine C_seq ?_
              refine C_region ?_
              refine V_y (Y_move rfl) rfl rfl rfl ?_
              refine V_y (Y_assign rfl) rfl rfl rfl ?_
              refine V_to (fun _ _ => rfl) ?_
              obtain rfl := Option.some.inj h80
              obtain rfl := (h81 : Lp.rt _ = _)
              rw [Lp.andThen_rt] at hm
              obtain rfl := Option.some.inj hm
              refine C_ret ?_
              try simp only [↓inBlock_ret, ↓then_ret]
              exact retQ rfl (Res.one Tryd.results22 rfl) ⟨rfl, hK.kp⟩
            · rw [if_neg (nt hc129)] at h80
              refine C_skip_to (fun _ _ => rfl) ?_
              refine C_region ?_
              refine V_y (Y_addI rfl rfl) rfl rfl rfl ?_
              refine V_y (Y_move rfl) rfl rfl rfl ?_
              obtain rfl := Option.some.inj h80
              refine V_end (fun a ha130 => ?_)
              exact ⟨(mapPut s75 x88.name true), hlt83, h81, ⟨A77, ha130.sub ⟨rfl, rfl, rfl, (congrArg (fun z => some (Value.int .i64 z)) (w64_succ hlt83 hn86)), trivial⟩, ⟨hH, hr68⟩⟩⟩
      · refine C_exit (fun a ha131 => ?_)
        exact ⟨(s75, A77), ha131.sub trivial, ⟨(h84 (eq_of_dec hle82 hc87)).symm, hH, hr68⟩⟩
    rintro ⟨s67, A73⟩ w70 ⟨rfl, hH74, hk71⟩ a ha72
    rw [Lp.andThen_fin] at hm
    replace hK := Tr.trans hK hk71
    replace hB := Nat.le_trans hB hk71.ex.size
    replace hA := hk71.new
    replace hH : Hp w.heap.size A73 w70 (obSM (α := Bool) b57 s67 :: []) := hH74
    refine C_at (n := ⟨62, [], none⟩) (fun _ _ => rfl) ?_ ha72
    refine C_seq ?_
    refine C_region ?_
    refine V_y (Y_assign rfl) rfl rfl rfl ?_
    refine V_to (fun _ _ => rfl) ?_
    obtain rfl := Option.some.inj hm
    refine C_ret ?_
    try simp only [↓inBlock_ret, ↓then_ret]
    exact retQ rfl (Res.one Tryd.results22 rfl) ⟨rfl, hK.kp⟩

set_option maxRecDepth 4000 in
set_option maxHeartbeats 4000000 in
theorem slices_IndexFunc_Llevel_Level_level_Level_c (w : World) {A : Nat → Prop} (hA : ∀ b, w.heap.size ≤ b → A b) (s : (List level_Level)) (v_s : Value) (h_s : Sl A w v_s s) (f : level_Level → Option Bool) (f_f : FuncId) (f_a f_c : Array Value) (f_call : ∀ (args : Array Value) (w : World), (callFunc f_f args).run Tryd.prog w = .ok (.enter f_f args) w) (f_spec : ∀ (w1 : World) (A1 : Nat → Prop), Tr w.heap.size A w A1 w1 → (∀ b, w1.heap.size ≤ b → A1 b) → ∀ (y0 : level_Level) (v1 : Value) (h2 : Sl A1 w1 v1 y0.tests) (v3 : Value) (h4 : Sl A1 w1 v3 y0.targets) (r : Bool), f y0 = some r → Ret Tryd.prog f_f (f_a ++ #[.agg #[.string y0.name, v1, v3]] ++ f_c) w1 fun v w' => v = .bool r ∧ Kp w1 w') {r : Int} (hm : slices_IndexFunc_Llevel_Level_level_Level s f = some r) : Ret Tryd.prog 68 #[v_s, .func (.func f_f) f_a f_c] w fun v w' => v = .int .i64 r ∧ Kp w w' := by
  unfold slices_IndexFunc_Llevel_Level_level_Level at hm
  refine enter Tryd.func68 rfl Tryd.ntmps68 rfl ?_
  have hA0 := hA
  have hB := Nat.le_refl w.heap.size
  have hK : Tr w.heap.size A w A w := Tr.refl hA
  have hH : Hp w.heap.size A w [] := Hp.nil
  refine C_seq ?_
  refine C_region ?_
  refine V_y (Y_assign rfl) rfl rfl rfl ?_
  refine V_to (fun _ _ => rfl) ?_
  refine C_seq ?_
  refine C_seq ?_
  refine C_region ?_
  refine V_y (Y_move rfl) rfl rfl rfl ?_
  refine V_y (Y_lenSl h_s rfl Tryd.underlying37 rfl) rfl rfl rfl ?_
  refine V_y (Y_move rfl) rfl rfl rfl ?_
  refine V_to (fun _ _ => rfl) ?_
  have hn23 := Sl.le h_s
  obtain ⟨o3, ho3, hm⟩ := Option.bind_eq_some_iff.1 hm
  refine C_cutG (ι := (Unit × (Nat → Prop))) (fun ⟨s4, A10⟩ => []) (fun ⟨s4, A10⟩ => fun w' => o3 = .fin s4 ∧ Hp w.heap.size A10 w' ([]) ∧ Tr w.heap.size A w A10 w') ?_ ?_
  · refine C_block ?_
    refine C_range ho3 (fun k6 _ a w' => ∃ i : (Nat → Prop), Has ⟨19, [], none⟩ a ([(0, v_s), (1, .func (.func f_f) f_a f_c), (7, .int .i64 (s.length : Int)), (8, .int .i64 (k6 : Int))]) ∧ Hp w.heap.size i w' ([]) ∧ Tr w.heap.size A w i w') (fun a ha => ⟨A, ha.sub ⟨rfl, rfl, rfl, rfl, trivial⟩, ⟨hH, Tr.refl hA⟩⟩) ?_
    rintro K k6 _ a w13 ⟨A14, ha41, hH15, hr5⟩ hle19 K22 h21
    refine C_of ?_ ha41
    replace h_s := Sl.tr h_s hr5
    replace hK := Tr.trans hK hr5
    replace hB := Nat.le_trans hB hr5.ex.size
    replace hA := hr5.new
    replace hH : Hp w.heap.size A14 w13 ([]) := hH15
    refine C_seq (C_region (V_y (Y_lss rfl rfl) rfl rfl rfl (V_to (fun _ _ => rfl) ?_)))
    refine C_seq ?_
    refine C_cond rfl (fun hc24 => ?_) (fun hc24 => ?_)
    · have hlt20 := lt_of_dec hc24
      obtain ⟨x16, h17, h18⟩ := K22 hlt20
      refine C_skip_to (fun _ _ => rfl) ?_
      refine C_seq ?_
      refine C_block ?_
      refine C_seq ?_
      refine C_region ?_
      refine V_y (Y_move rfl) rfl rfl rfl ?_
      refine V_y (Y_assign rfl) rfl rfl rfl ?_
      refine V_to (fun _ _ => rfl) ?_
      refine C_seq ?_
      refine C_region ?_
      refine V_y (Y_move rfl) rfl rfl rfl ?_
      refine V_y (Y_move rfl) rfl rfl rfl ?_
      refine V_y (Y_move rfl) rfl rfl rfl ?_
      obtain ⟨x25, hx25, h17⟩ := Option.bind_eq_some_iff.1 h17
      refine V_indexAddr h_s hx25 Tryd.underlying37 Tryd.sizeOf93 rfl rfl rfl ?_
      intro b26 o27 h28
      obtain ⟨v29, v31, h33, h30, h32⟩ := El_level_Level h28
      refine V_y (Y_loadA h33 Tryd.isAgg93 Tryd.sizeOf93 rfl) rfl rfl rfl ?_
      obtain ⟨x34, hx34, h17⟩ := Option.bind_eq_some_iff.1 h17
      refine V_call f_call rfl rfl rfl rfl (f_spec w13 _ hK hA x25 v29 h30 v31 h32 _ hx34) ?_
      rintro _ w35 ⟨rfl, hk36⟩
      have ht37 := Kp.tr hk36 hA hB
      replace hH := Hp.kp hH hk36
      replace h_s := Sl.tr h_s ht37
      replace h28 := El.tr h28 ht37
      replace h30 := Sl.tr h30 ht37
      replace h32 := Sl.tr h32 ht37
      replace hK := Tr.trans hK ht37
      replace hr5 := Tr.trans hr5 ht37
      replace hB := Nat.le_trans hB ht37.ex.size
      replace hA := ht37.new
      refine V_to (fun _ _ => rfl) ?_
      refine C_cond rfl (fun hc38 => ?_) (fun hc38 => ?_)
      · rw [if_pos hc38] at h17
        refine C_seq ?_
        refine C_region ?_
        refine V_y (Y_move rfl) rfl rfl rfl ?_
        refine V_y (Y_assign rfl) rfl rfl rfl ?_
        refine V_to (fun _ _ => rfl) ?_
        obtain rfl := Option.some.inj h17
        obtain rfl := (h18 : Lp.rt _ = _)
        rw [Lp.andThen_rt] at hm
        obtain rfl := Option.some.inj hm
        refine C_ret ?_
        try simp only [↓inBlock_ret, ↓then_ret]
        exact retQ rfl (Res.one Tryd.results68 rfl) ⟨rfl, hK.kp⟩
      · rw [if_neg (nt hc38)] at h17
        refine C_skip_to (fun _ _ => rfl) ?_
        refine C_region ?_
        refine V_y (Y_addI rfl rfl) rfl rfl rfl ?_
        refine V_y (Y_move rfl) rfl rfl rfl ?_
        obtain rfl := Option.some.inj h17
        refine V_end (fun a ha39 => ?_)
        exact ⟨(), hlt20, h18, ⟨A14, ha39.sub ⟨rfl, rfl, rfl, (congrArg (fun z => some (Value.int .i64 z)) (w64_succ hlt20 hn23)), trivial⟩, ⟨hH, hr5⟩⟩⟩
    · refine C_exit (fun a ha40 => ?_)
      exact ⟨((), A14), ha40.sub trivial, ⟨(h21 (eq_of_dec hle19 hc24)).symm, hH, hr5⟩⟩
  rintro ⟨s4, A10⟩ w7 ⟨rfl, hH11, hk8⟩ a ha9
  rw [Lp.andThen_fin] at hm
  replace hK := Tr.trans hK hk8
  replace hB := Nat.le_trans hB hk8.ex.size
  replace hA := hk8.new
  replace hH : Hp w.heap.size A10 w7 ([]) := hH11
  refine C_at (n := ⟨19, [], none⟩) (fun _ _ => rfl) ?_ ha9
  refine C_seq ?_
  refine C_region ?_
  refine V_y (Y_assign rfl) rfl rfl rfl ?_
  refine V_to (fun _ _ => rfl) ?_
  obtain rfl := Option.some.inj hm
  refine C_ret ?_
  try simp only [↓inBlock_ret, ↓then_ret]
  exact retQ rfl (Res.one Tryd.results68 rfl) ⟨rfl, hK.kp⟩

set_option maxRecDepth 4000 in
set_option maxHeartbeats 4000000 in
theorem slices_IndexFunc_Llevel_Test_level_Test_c (w : World) {A : Nat → Prop} (hA : ∀ b, w.heap.size ≤ b → A b) (s : (List level_Test)) (v_s : Value) (h_s : Sl A w v_s s) (f : level_Test → Option Bool) (f_f : FuncId) (f_a f_c : Array Value) (f_call : ∀ (args : Array Value) (w : World), (callFunc f_f args).run Tryd.prog w = .ok (.enter f_f args) w) (f_spec : ∀ (w1 : World) (A1 : Nat → Prop), Tr w.heap.size A w A1 w1 → (∀ b, w1.heap.size ≤ b → A1 b) → ∀ (y0 : level_Test) (r : Bool), f y0 = some r → Ret Tryd.prog f_f (f_a ++ #[.agg #[.int .i64 y0.field, .int .i64 y0.value.kind, .int .i64 y0.value.int, .string y0.value.text]] ++ f_c) w1 fun v w' => v = .bool r ∧ Kp w1 w') {r : Int} (hm : slices_IndexFunc_Llevel_Test_level_Test s f = some r) : Ret Tryd.prog 101 #[v_s, .func (.func f_f) f_a f_c] w fun v w' => v = .int .i64 r ∧ Kp w w' := by
  unfold slices_IndexFunc_Llevel_Test_level_Test at hm
  refine enter Tryd.func101 rfl Tryd.ntmps101 rfl ?_
  have hA0 := hA
  have hB := Nat.le_refl w.heap.size
  have hK : Tr w.heap.size A w A w := Tr.refl hA
  have hH : Hp w.heap.size A w [] := Hp.nil
  refine C_seq ?_
  refine C_region ?_
  refine V_y (Y_assign rfl) rfl rfl rfl ?_
  refine V_to (fun _ _ => rfl) ?_
  refine C_seq ?_
  refine C_seq ?_
  refine C_region ?_
  refine V_y (Y_move rfl) rfl rfl rfl ?_
  refine V_y (Y_lenSl h_s rfl Tryd.underlying90 rfl) rfl rfl rfl ?_
  refine V_y (Y_move rfl) rfl rfl rfl ?_
  refine V_to (fun _ _ => rfl) ?_
  have hn23 := Sl.le h_s
  obtain ⟨o3, ho3, hm⟩ := Option.bind_eq_some_iff.1 hm
  refine C_cutG (ι := (Unit × (Nat → Prop))) (fun ⟨s4, A10⟩ => []) (fun ⟨s4, A10⟩ => fun w' => o3 = .fin s4 ∧ Hp w.heap.size A10 w' ([]) ∧ Tr w.heap.size A w A10 w') ?_ ?_
  · refine C_block ?_
    refine C_range ho3 (fun k6 _ a w' => ∃ i : (Nat → Prop), Has ⟨19, [], none⟩ a ([(0, v_s), (1, .func (.func f_f) f_a f_c), (7, .int .i64 (s.length : Int)), (8, .int .i64 (k6 : Int))]) ∧ Hp w.heap.size i w' ([]) ∧ Tr w.heap.size A w i w') (fun a ha => ⟨A, ha.sub ⟨rfl, rfl, rfl, rfl, trivial⟩, ⟨hH, Tr.refl hA⟩⟩) ?_
    rintro K k6 _ a w13 ⟨A14, ha37, hH15, hr5⟩ hle19 K22 h21
    refine C_of ?_ ha37
    replace h_s := Sl.tr h_s hr5
    replace hK := Tr.trans hK hr5
    replace hB := Nat.le_trans hB hr5.ex.size
    replace hA := hr5.new
    replace hH : Hp w.heap.size A14 w13 ([]) := hH15
    refine C_seq (C_region (V_y (Y_lss rfl rfl) rfl rfl rfl (V_to (fun _ _ => rfl) ?_)))
    refine C_seq ?_
    refine C_cond rfl (fun hc24 => ?_) (fun hc24 => ?_)
    · have hlt20 := lt_of_dec hc24
      obtain ⟨x16, h17, h18⟩ := K22 hlt20
      refine C_skip_to (fun _ _ => rfl) ?_
      refine C_seq ?_
      refine C_block ?_
      refine C_seq ?_
      refine C_region ?_
      refine V_y (Y_move rfl) rfl rfl rfl ?_
      refine V_y (Y_assign rfl) rfl rfl rfl ?_
      refine V_to (fun _ _ => rfl) ?_
      refine C_seq ?_
      refine C_region ?_
      refine V_y (Y_move rfl) rfl rfl rfl ?_
      refine V_y (Y_move rfl) rfl rfl rfl ?_
      refine V_y (Y_move rfl) rfl rfl rfl ?_
      obtain ⟨x25, hx25, h17⟩ := Option.bind_eq_some_iff.1 h17
      refine V_indexAddr h_s hx25 Tryd.underlying90 Tryd.sizeOf97 rfl rfl rfl ?_
      intro b26 o27 h28
      obtain ⟨h29, _⟩ := El_level_Test h28
      refine V_y (Y_loadA h29 Tryd.isAgg97 Tryd.sizeOf97 rfl) rfl rfl rfl ?_
      obtain ⟨x30, hx30, h17⟩ := Option.bind_eq_some_iff.1 h17
      refine V_call f_call rfl rfl rfl rfl (f_spec w13 _ hK hA x25 _ hx30) ?_
      rintro _ w31 ⟨rfl, hk32⟩
      have ht33 := Kp.tr hk32 hA hB
      replace hH := Hp.kp hH hk32
      replace h_s := Sl.tr h_s ht33
      replace h28 := El.tr h28 ht33
      replace hK := Tr.trans hK ht33
      replace hr5 := Tr.trans hr5 ht33
      replace hB := Nat.le_trans hB ht33.ex.size
      replace hA := ht33.new
      refine V_to (fun _ _ => rfl) ?_
      refine C_cond rfl (fun hc34 => ?_) (fun hc34 => ?_)
      · rw [if_pos hc34] at h17
        refine C_seq ?_
        refine C_region ?_
        refine V_y (Y_move rfl) rfl rfl rfl ?_
        refine V_y (Y_assign rfl) rfl rfl rfl ?_
        refine V_to (fun _ _ => rfl) ?_
        obtain rfl := Option.some.inj h17
        obtain rfl := (h18 : Lp.rt _ = _)
        rw [Lp.andThen_rt] at hm
        obtain rfl := Option.some.inj hm
        refine C_ret ?_
        try simp only [↓inBlock_ret, ↓then_ret]
        exact retQ rfl (Res.one Tryd.results101 rfl) ⟨rfl, hK.kp⟩
      · rw [if_neg (nt hc34)] at h17
        refine C_skip_to (fun _ _ => rfl) ?_
        refine C_region ?_
        refine V_y (Y_addI rfl rfl) rfl rfl rfl ?_
        refine V_y (Y_move rfl) rfl rfl rfl ?_
        obtain rfl := Option.some.inj h17
        refine V_end (fun a ha35 => ?_)
        exact ⟨(), hlt20, h18, ⟨A14, ha35.sub ⟨rfl, rfl, rfl, (congrArg (fun z => some (Value.int .i64 z)) (w64_succ hlt20 hn23)), trivial⟩, ⟨hH, hr5⟩⟩⟩
    · refine C_exit (fun a ha36 => ?_)
      exact ⟨((), A14), ha36.sub trivial, ⟨(h21 (eq_of_dec hle19 hc24)).symm, hH, hr5⟩⟩
  rintro ⟨s4, A10⟩ w7 ⟨rfl, hH11, hk8⟩ a ha9
  rw [Lp.andThen_fin] at hm
  replace hK := Tr.trans hK hk8
  replace hB := Nat.le_trans hB hk8.ex.size
  replace hA := hk8.new
  replace hH : Hp w.heap.size A10 w7 ([]) := hH11
  refine C_at (n := ⟨19, [], none⟩) (fun _ _ => rfl) ?_ ha9
  refine C_seq ?_
  refine C_region ?_
  refine V_y (Y_assign rfl) rfl rfl rfl ?_
  refine V_to (fun _ _ => rfl) ?_
  obtain rfl := Option.some.inj hm
  refine C_ret ?_
  try simp only [↓inBlock_ret, ↓then_ret]
  exact retQ rfl (Res.one Tryd.results101 rfl) ⟨rfl, hK.kp⟩

set_option maxRecDepth 4000 in
set_option maxHeartbeats 4000000 in
theorem slices_ContainsFunc_Llevel_Test_level_Test_c (w : World) {A : Nat → Prop} (hA : ∀ b, w.heap.size ≤ b → A b) (s : (List level_Test)) (v_s : Value) (h_s : Sl A w v_s s) (f : level_Test → Option Bool) (f_f : FuncId) (f_a f_c : Array Value) (f_call : ∀ (args : Array Value) (w : World), (callFunc f_f args).run Tryd.prog w = .ok (.enter f_f args) w) (f_spec : ∀ (w1 : World) (A1 : Nat → Prop), Tr w.heap.size A w A1 w1 → (∀ b, w1.heap.size ≤ b → A1 b) → ∀ (y0 : level_Test) (r : Bool), f y0 = some r → Ret Tryd.prog f_f (f_a ++ #[.agg #[.int .i64 y0.field, .int .i64 y0.value.kind, .int .i64 y0.value.int, .string y0.value.text]] ++ f_c) w1 fun v w' => v = .bool r ∧ Kp w1 w') {r : Bool} (hm : slices_ContainsFunc_Llevel_Test_level_Test s f = some r) : Ret Tryd.prog 70 #[v_s, .func (.func f_f) f_a f_c] w fun v w' => v = .bool r ∧ Kp w w' := by
  unfold slices_ContainsFunc_Llevel_Test_level_Test at hm
  refine enter Tryd.func70 rfl Tryd.ntmps70 rfl ?_
  have hA0 := hA
  have hB := Nat.le_refl w.heap.size
  have hK : Tr w.heap.size A w A w := Tr.refl hA
  have hH : Hp w.heap.size A w [] := Hp.nil
  refine C_seq ?_
  refine C_region ?_
  refine V_y (Y_assign rfl) rfl rfl rfl ?_
  refine V_to (fun _ _ => rfl) ?_
  refine C_seq ?_
  refine C_region ?_
  refine V_y (Y_move rfl) rfl rfl rfl ?_
  refine V_y (Y_move rfl) rfl rfl rfl ?_
  obtain ⟨x3, hx3, hm⟩ := Option.bind_eq_some_iff.1 hm
  refine V_call Tryd.call101 rfl rfl rfl rfl (slices_IndexFunc_Llevel_Test_level_Test_c w hA s v_s h_s f f_f f_a f_c f_call (fun w1 A1 ht => f_spec w1 A1 (Tr.trans hK ht)) hx3) ?_
  rintro _ w4 ⟨rfl, hk5⟩
  have ht6 := Kp.tr hk5 hA hB
  replace hH := Hp.kp hH hk5
  replace h_s := Sl.tr h_s ht6
  replace hK := Tr.trans hK ht6
  replace hB := Nat.le_trans hB ht6.ex.size
  replace hA := ht6.new
  refine V_y (Y_geq rfl rfl) rfl rfl rfl ?_
  refine V_y (Y_assign rfl) rfl rfl rfl ?_
  refine V_to (fun _ _ => rfl) ?_
  obtain rfl := Option.some.inj hm
  refine C_ret ?_
  try simp only [↓inBlock_ret, ↓then_ret]
  exact retQ rfl (Res.one Tryd.results70 rfl) ⟨rfl, hK.kp⟩

set_option maxRecDepth 4000 in
set_option maxHeartbeats 4000000 in
theorem level_Policy_levelOf_1_1_c (w : World) {A : Nat → Prop} (hA : ∀ b, w.heap.size ≤ b → A b) (t : level_Test) (p1 : Int) (b_p1 : Nat) (h_p1 : El A w b_p1 0 p1) (p2 : (List api_Value)) (b_p2 : Nat) (h_p2 : El A w b_p2 0 p2) {r : Bool} (hm : level_Policy_levelOf_1_1 t p1 p2 = some r) : Ret Tryd.prog 71 #[.agg #[.int .i64 t.field, .int .i64 t.value.kind, .int .i64 t.value.int, .string t.value.text], .pointer (some ⟨b_p1, 0, none⟩), .pointer (some ⟨b_p2, 0, none⟩)] w fun v w' => v = .bool r ∧ Kp w w' := by
  unfold level_Policy_levelOf_1_1 at hm
  refine enter Tryd.func71 rfl Tryd.ntmps71 rfl ?_
  have hA0 := hA
  have hB := Nat.le_refl w.heap.size
  have hK : Tr w.heap.size A w A w := Tr.refl hA
  have hH : Hp w.heap.size A w [] := Hp.nil
  refine C_seq ?_
  refine C_region ?_
  refine V_box rfl rfl ?_
  intro b1 w2 h3
  have hk5 := h3.kp
  have h4 : El (α := level_Test) A w2 b1 0 t := h3.el hA ⟨[.int .i64 t.field], _, rfl, rfl, ⟨[.int .i64 t.value.kind], _, rfl, rfl, ⟨[.int .i64 t.value.int], _, rfl, rfl, rfl⟩⟩⟩
  have ht6 := Kp.tr hk5 hA hB
  replace hH := Hp.kp hH hk5
  replace h_p1 := El.tr h_p1 ht6
  replace h_p2 := El.tr h_p2 ht6
  replace hK := Tr.trans hK ht6
  replace hB := Nat.le_trans hB ht6.ex.size
  replace hA := ht6.new
  refine V_y (Y_assign rfl) rfl rfl rfl ?_
  refine V_to (fun _ _ => rfl) ?_
  refine C_seq ?_
  refine C_region ?_
  refine V_y (Y_build Tryd.underlying95 Tryd.zeroValue95 (Tryd_places95 _ Tryd.underlying95) rfl (by with_unfolding_all rfl)) rfl rfl rfl ?_
  refine V_allocH (B := w.heap.size) hH Tryd.zeroValue95 hB hA rfl ?_
  intro b7 w9 A10 hH11 ht12
  replace h_p1 := El.tr h_p1 ht12
  replace h_p2 := El.tr h_p2 ht12
  replace h4 := El.tr h4 ht12
  replace hK := Tr.trans hK ht12
  replace hB := Nat.le_trans hB ht12.ex.size
  replace hA := ht12.new
  replace hH : Hp w.heap.size A10 w9 (obC b7 [.int .i64 0, .int .i64 0, .string ByteArray.empty] 95 :: []) := hH11
  refine V_storeC (off := 0) (ds := [.int .i64 0, .int .i64 0, .string ByteArray.empty]) hH (i := 0) rfl Tryd.sizeOf95 rfl (Nat.le_of_ble_eq_true rfl) (by simp [Value.cells, Value.oneCell']) rfl hB hA rfl rfl ?_
  intro w13 hH14 ht15
  replace h_p1 := El.tr h_p1 ht15
  replace h_p2 := El.tr h_p2 ht15
  replace h4 := El.tr h4 ht15
  replace hK := Tr.trans hK ht15
  replace hB := Nat.le_trans hB ht15.ex.size
  replace hA := ht15.new
  replace hH : Hp w.heap.size A10 w13 (obC b7 [.int .i64 0, .int .i64 0, .string ByteArray.empty] 95 :: []) := hH14
  refine V_to (fun _ _ => rfl) ?_
  refine C_seq ?_
  obtain ⟨s17, ho16, hm⟩ := Option.bind_eq_some_iff.1 hm
  refine C_cutG (ι := (Nat → Prop)) (fun (A22 : (Nat → Prop)) => [(3, .pointer (some ⟨b1, 0, none⟩)), (5, .pointer (some ⟨b7, 0, none⟩))]) (fun (A22 : (Nat → Prop)) => fun w' => Hp w.heap.size A22 w' (obC b7 [.int .i64 s17.kind, .int .i64 s17.int, .string s17.text] 95 :: []) ∧ Tr w.heap.size A10 w13 A22 w') ?_ ?_
  · have hr18 : Tr w.heap.size A10 w13 A10 w13 := Tr.refl hA
    refine C_block ?_
    refine C_seq ?_
    refine C_region ?_
    have h24 := El_level_Test_0 h4
    refine V_y (Y_fieldAddr Tryd.underlying97 rfl Tryd.sizeOf3 (by decide) rfl) rfl rfl rfl ?_
    refine V_y (Y_load (El.int h24) Tryd.isAgg3 rfl) rfl rfl rfl ?_
    refine V_y (Y_eql rfl rfl) rfl rfl rfl ?_
    refine V_y (Y_assign rfl) rfl rfl rfl ?_
    refine V_to (fun _ _ => rfl) ?_
    obtain ⟨s26, ho25, ho16⟩ := Option.bind_eq_some_iff.1 ho16
    refine C_cutG (ι := (Nat → Prop)) (fun (A31 : (Nat → Prop)) => [(3, .pointer (some ⟨b1, 0, none⟩)), (5, .pointer (some ⟨b7, 0, none⟩))]) (fun (A31 : (Nat → Prop)) => fun w' => Hp w.heap.size A31 w' (obC b7 [.int .i64 s26.kind, .int .i64 s26.int, .string s26.text] 95 :: []) ∧ Tr w.heap.size A10 w13 A31 w') ?_ ?_
    · have hr27 : Tr w.heap.size A10 w13 A10 w13 := Tr.refl hA
      refine C_cond rfl (fun hc33 => ?_) (fun hc33 => ?_)
      · rw [if_pos hc33] at ho25
        refine C_region ?_
        refine V_y (Y_load (El.int h_p1) Tryd.isAgg3 rfl) rfl rfl rfl ?_
        refine V_y (Y_build Tryd.underlying95 Tryd.zeroValue95 (Tryd_places95 _ Tryd.underlying95) rfl (by with_unfolding_all rfl)) rfl rfl rfl ?_
        refine V_storeC (off := 0) (ds := [.int .i64 2, .int .i64 p1, .string ByteArray.empty]) hH (i := 0) rfl Tryd.sizeOf95 rfl (Nat.le_of_ble_eq_true rfl) (by simp [Value.cells, Value.oneCell']) rfl hB hA rfl rfl ?_
        intro w34 hH35 ht36
        replace h_p1 := El.tr h_p1 ht36
        replace h_p2 := El.tr h_p2 ht36
        replace h4 := El.tr h4 ht36
        replace hK := Tr.trans hK ht36
        replace hr18 := Tr.trans hr18 ht36
        replace hr27 := Tr.trans hr27 ht36
        replace hB := Nat.le_trans hB ht36.ex.size
        replace hA := ht36.new
        replace hH : Hp w.heap.size A10 w34 (obC b7 [.int .i64 2, .int .i64 p1, .string ByteArray.empty] 95 :: []) := hH35
        obtain rfl := Option.some.inj ho25
        refine V_end (fun a ha37 => ?_)
        exact ⟨A10, ha37.sub ⟨rfl, rfl, trivial⟩, ⟨hH, hr27⟩⟩
      · rw [if_neg (nt hc33)] at ho25
        refine C_seq ?_
        refine C_region ?_
        have h38 := El_level_Test_0 h4
        refine V_y (Y_fieldAddr Tryd.underlying97 rfl Tryd.sizeOf3 (by decide) rfl) rfl rfl rfl ?_
        refine V_y (Y_load (El.int h38) Tryd.isAgg3 rfl) rfl rfl rfl ?_
        obtain ⟨v39, h40, h41⟩ := El.list h_p2
        refine V_y (Y_load h40 Tryd.isAgg40 rfl) rfl rfl rfl ?_
        refine V_y (Y_lenSl h41 rfl Tryd.underlying40 rfl) rfl rfl rfl ?_
        refine V_y (Y_lss rfl rfl) rfl rfl rfl ?_
        refine V_y (Y_assign rfl) rfl rfl rfl ?_
        refine V_to (fun _ _ => rfl) ?_
        obtain ⟨s43, ho42, ho25⟩ := Option.bind_eq_some_iff.1 ho25
        refine C_cutG (ι := (Nat → Prop)) (fun (A48 : (Nat → Prop)) => [(3, .pointer (some ⟨b1, 0, none⟩)), (5, .pointer (some ⟨b7, 0, none⟩))]) (fun (A48 : (Nat → Prop)) => fun w' => Hp w.heap.size A48 w' (obC b7 [.int .i64 s43.kind, .int .i64 s43.int, .string s43.text] 95 :: []) ∧ Tr w.heap.size A10 w13 A48 w') ?_ ?_
        · have hr44 : Tr w.heap.size A10 w13 A10 w13 := Tr.refl hA
          refine C_cond rfl (fun hc50 => ?_) (fun hc50 => ?_)
          · rw [if_pos hc50] at ho42
            refine C_region ?_
            obtain ⟨v51, h52, h53⟩ := El.list h_p2
            refine V_y (Y_load h52 Tryd.isAgg40 rfl) rfl rfl rfl ?_
            have h54 := El_level_Test_0 h4
            refine V_y (Y_fieldAddr Tryd.underlying97 rfl Tryd.sizeOf3 (by decide) rfl) rfl rfl rfl ?_
            refine V_y (Y_load (El.int h54) Tryd.isAgg3 rfl) rfl rfl rfl ?_
            obtain ⟨x55, hx55, ho42⟩ := Option.bind_eq_some_iff.1 ho42
            refine V_indexAddr h53 hx55 Tryd.underlying40 Tryd.sizeOf95 rfl rfl rfl ?_
            intro b56 o57 h58
            obtain ⟨h59, _⟩ := El_api_Value h58
            refine V_y (Y_loadA h59 Tryd.isAgg95 Tryd.sizeOf95 rfl) rfl rfl rfl ?_
            refine V_storeC (off := 0) (ds := [.int .i64 x55.kind, .int .i64 x55.int, .string x55.text]) hH (i := 0) rfl Tryd.sizeOf95 rfl (Nat.le_of_ble_eq_true rfl) (by simp [Value.cells, Value.oneCell']) rfl hB hA rfl rfl ?_
            intro w60 hH61 ht62
            replace h_p2 := El.tr h_p2 ht62
            replace h4 := El.tr h4 ht62
            replace h53 := Sl.tr h53 ht62
            replace h54 := El.tr h54 ht62
            replace h58 := El.tr h58 ht62
            replace hK := Tr.trans hK ht62
            replace hr18 := Tr.trans hr18 ht62
            replace hr27 := Tr.trans hr27 ht62
            replace hr44 := Tr.trans hr44 ht62
            replace hB := Nat.le_trans hB ht62.ex.size
            replace hA := ht62.new
            replace hH : Hp w.heap.size A10 w60 (obC b7 [.int .i64 x55.kind, .int .i64 x55.int, .string x55.text] 95 :: []) := hH61
            obtain rfl := Option.some.inj ho42
            refine V_end (fun a ha63 => ?_)
            exact ⟨A10, ha63.sub ⟨rfl, rfl, trivial⟩, ⟨hH, hr44⟩⟩
          · rw [if_neg (nt hc50)] at ho42
            obtain rfl := Option.some.inj ho42
            refine C_skip (fun a ha64 => ?_)
            exact ⟨A10, ha64.sub ⟨rfl, rfl, trivial⟩, ⟨hH, hr44⟩⟩
        rintro A48 w45 ⟨hH49, hk46⟩ a ha47
        replace h4 := El.tr h4 hk46
        replace hK := Tr.trans hK hk46
        replace hr18 := Tr.trans hr18 hk46
        replace hr27 := Tr.trans hr27 hk46
        replace hB := Nat.le_trans hB hk46.ex.size
        replace hA := hk46.new
        replace hH : Hp w.heap.size A48 w45 (obC b7 [.int .i64 s43.kind, .int .i64 s43.int, .string s43.text] 95 :: []) := hH49
        obtain rfl := Option.some.inj ho25
        exact ⟨A48, ha47.sub ⟨rfl, rfl, trivial⟩, ⟨hH, hr27⟩⟩
    rintro A31 w28 ⟨hH32, hk29⟩ a ha30
    replace h4 := El.tr h4 hk29
    replace hK := Tr.trans hK hk29
    replace hr18 := Tr.trans hr18 hk29
    replace hB := Nat.le_trans hB hk29.ex.size
    replace hA := hk29.new
    replace hH : Hp w.heap.size A31 w28 (obC b7 [.int .i64 s26.kind, .int .i64 s26.int, .string s26.text] 95 :: []) := hH32
    obtain rfl := Option.some.inj ho16
    exact ⟨A31, ha30.sub ⟨rfl, rfl, trivial⟩, ⟨hH, hr18⟩⟩
  rintro A22 w19 ⟨hH23, hk20⟩ a ha21
  replace h4 := El.tr h4 hk20
  replace hK := Tr.trans hK hk20
  replace hB := Nat.le_trans hB hk20.ex.size
  replace hA := hk20.new
  replace hH : Hp w.heap.size A22 w19 (obC b7 [.int .i64 s17.kind, .int .i64 s17.int, .string s17.text] 95 :: []) := hH23
  refine C_at (n := ⟨28, [], none⟩) (fun _ _ => rfl) ?_ ha21
  refine C_seq ?_
  refine C_region ?_
  refine V_y (Y_loadA (Hp.part (off := 0) (n := 3) (ds := [.int .i64 s17.kind, .int .i64 s17.int, .string s17.text]) hH (i := 0) rfl rfl) Tryd.isAgg95 Tryd.sizeOf95 rfl) rfl rfl rfl ?_
  have h67 := El_level_Test_1 h4
  refine V_y (Y_fieldAddr Tryd.underlying97 rfl Tryd.sizeOf95 (by decide) rfl) rfl rfl rfl ?_
  obtain ⟨h68, _⟩ := El_api_Value h67
  refine V_y (Y_loadA h68 Tryd.isAgg95 Tryd.sizeOf95 rfl) rfl rfl rfl ?_
  refine V_y (Y_neqA (fun w => Tryd_eqt95_10000 s17.kind s17.int s17.text t.value.kind t.value.int t.value.text w) Tryd_eqg95 rfl rfl) rfl rfl rfl ?_
  refine V_y (Y_assign rfl) rfl rfl rfl ?_
  refine V_to (fun _ _ => rfl) ?_
  obtain rfl := Option.some.inj hm
  refine C_ret ?_
  try simp only [↓inBlock_ret, ↓then_ret]
  exact retQ rfl (Res.one Tryd.results71 rfl) ⟨rfl, hK.kp⟩

set_option maxRecDepth 4000 in
set_option maxHeartbeats 4000000 in
theorem level_Policy_levelOf_1_c (w : World) {A : Nat → Prop} (hA : ∀ b, w.heap.size ≤ b → A b) (l : level_Level) (v_l0 : Value) (h_l0 : Sl A w v_l0 l.tests) (v_l1 : Value) (h_l1 : Sl A w v_l1 l.targets) (p1 : Int) (b_p1 : Nat) (h_p1 : El A w b_p1 0 p1) (p2 : (List api_Value)) (b_p2 : Nat) (h_p2 : El A w b_p2 0 p2) {r : Bool} (hm : level_Policy_levelOf_1 l p1 p2 = some r) : Ret Tryd.prog 69 #[.agg #[.string l.name, v_l0, v_l1], .pointer (some ⟨b_p1, 0, none⟩), .pointer (some ⟨b_p2, 0, none⟩)] w fun v w' => v = .bool r ∧ Kp w w' := by
  unfold level_Policy_levelOf_1 at hm
  refine enter Tryd.func69 rfl Tryd.ntmps69 rfl ?_
  have hA0 := hA
  have hB := Nat.le_refl w.heap.size
  have hK : Tr w.heap.size A w A w := Tr.refl hA
  have hH : Hp w.heap.size A w [] := Hp.nil
  refine C_seq ?_
  refine C_region ?_
  refine V_box rfl rfl ?_
  intro b5 w6 h7
  have hk9 := h7.kp
  have h8 : El (α := level_Level) A w6 b5 0 l := h7.el hA ⟨[.string l.name], _, rfl, rfl, ⟨[v_l0], _, rfl, ⟨_, rfl, h_l0⟩, ⟨_, rfl, h_l1⟩⟩⟩
  have ht10 := Kp.tr hk9 hA hB
  replace hH := Hp.kp hH hk9
  replace h_l0 := Sl.tr h_l0 ht10
  replace h_l1 := Sl.tr h_l1 ht10
  replace h_p1 := El.tr h_p1 ht10
  replace h_p2 := El.tr h_p2 ht10
  replace hK := Tr.trans hK ht10
  replace hB := Nat.le_trans hB ht10.ex.size
  replace hA := ht10.new
  refine V_y (Y_assign rfl) rfl rfl rfl ?_
  refine V_to (fun _ _ => rfl) ?_
  refine C_seq ?_
  refine C_region ?_
  have h11 := El_level_Level_1 h8
  refine V_y (Y_fieldAddr Tryd.underlying93 rfl Tryd.sizeOf90 (by decide) rfl) rfl rfl rfl ?_
  obtain ⟨v12, h13, h14⟩ := El.list h11
  refine V_y (Y_load h13 Tryd.isAgg90 rfl) rfl rfl rfl ?_
  refine V_y (Y_makeFunc rfl rfl) rfl rfl rfl ?_
  obtain ⟨x16, hx16, hm⟩ := Option.bind_eq_some_iff.1 hm
  refine V_call Tryd.call70 rfl rfl rfl rfl (slices_ContainsFunc_Llevel_Test_level_Test_c w6 hA l.tests v12 h14 (fun y24 => level_Policy_levelOf_1_1 y24 p1 p2) 71 #[] #[.pointer (some ⟨b_p1, 0, none⟩), .pointer (some ⟨b_p2, 0, none⟩)] Tryd.call71 (fun w20 A21 ht22 h23 y17 r18 h19 => (level_Policy_levelOf_1_1_c w20 h23 y17 p1 b_p1 (El.tr h_p1 ht22) p2 b_p2 (El.tr h_p2 ht22) h19).mono (fun _ _ h => ⟨h.1, h.2⟩)) hx16) ?_
  rintro _ w25 ⟨rfl, hk26⟩
  have ht27 := Kp.tr hk26 hA hB
  replace hH := Hp.kp hH hk26
  replace h_p1 := El.tr h_p1 ht27
  replace h_p2 := El.tr h_p2 ht27
  replace h8 := El.tr h8 ht27
  replace h11 := El.tr h11 ht27
  replace h14 := Sl.tr h14 ht27
  replace hK := Tr.trans hK ht27
  replace hB := Nat.le_trans hB ht27.ex.size
  replace hA := ht27.new
  refine V_y (Y_not rfl) rfl rfl rfl ?_
  refine V_y (Y_assign rfl) rfl rfl rfl ?_
  refine V_to (fun _ _ => rfl) ?_
  obtain rfl := Option.some.inj hm
  refine C_ret ?_
  try simp only [↓inBlock_ret, ↓then_ret]
  exact retQ rfl (Res.one Tryd.results69 rfl) ⟨rfl, hK.kp⟩

set_option maxRecDepth 4000 in
set_option maxHeartbeats 4000000 in
theorem level_Policy_levelOf_c (w : World) {A : Nat → Prop} (hA : ∀ b, w.heap.size ≤ b → A b) (p : level_Policy) (v_p0 : Value) (h_p0 : Sl A w v_p0 p.pauses) (v_p1 : Value) (h_p1 : Sl A w v_p1 p.levels) (priority : Int) (values : (List api_Value)) (v_values : Value) (h_values : Sl A w v_values values) {r : Int} (hm : level_Policy_levelOf p priority values = some r) : Ret Tryd.prog 41 #[.agg #[v_p0, v_p1], .int .i64 priority, v_values] w fun v w' => v = .int .i64 r ∧ Kp w w' := by
  unfold level_Policy_levelOf at hm
  refine enter Tryd.func41 rfl Tryd.ntmps41 rfl ?_
  have hA0 := hA
  have hB := Nat.le_refl w.heap.size
  have hK : Tr w.heap.size A w A w := Tr.refl hA
  have hH : Hp w.heap.size A w [] := Hp.nil
  refine C_seq ?_
  refine C_region ?_
  refine V_box rfl rfl ?_
  intro b7 w9 h10
  have hk12 := h10.kp
  have h11 : El (α := level_Policy) A w9 b7 0 p := h10.el hA ⟨[v_p0], _, rfl, ⟨_, rfl, h_p0⟩, ⟨_, rfl, h_p1⟩⟩
  have ht13 := Kp.tr hk12 hA hB
  replace hH := Hp.kp hH hk12
  replace h_p0 := Sl.tr h_p0 ht13
  replace h_p1 := Sl.tr h_p1 ht13
  replace h_values := Sl.tr h_values ht13
  replace hK := Tr.trans hK ht13
  replace hB := Nat.le_trans hB ht13.ex.size
  replace hA := ht13.new
  refine V_box rfl rfl ?_
  intro b14 w15 h16
  have hk18 := h16.kp
  have h17 : El (α := Int) A w15 b14 0 priority := h16.el hA rfl
  have ht19 := Kp.tr hk18 hA hB
  replace hH := Hp.kp hH hk18
  replace h_p0 := Sl.tr h_p0 ht19
  replace h_p1 := Sl.tr h_p1 ht19
  replace h_values := Sl.tr h_values ht19
  replace h11 := El.tr h11 ht19
  replace hK := Tr.trans hK ht19
  replace hB := Nat.le_trans hB ht19.ex.size
  replace hA := ht19.new
  refine V_box rfl rfl ?_
  intro b20 w21 h22
  have h27 : (v_values).oneCell' = true := by obtain ⟨_, _, e, _⟩ := Sl.form h_values; rw [e]; rfl
  have hk24 := h22.kp
  have h23 : El (α := (List api_Value)) A w21 b20 0 values := h22.el hA (by rw [Value.cells_one h27]; exact ⟨_, rfl, h_values⟩)
  have ht28 := Kp.tr hk24 hA hB
  replace hH := Hp.kp hH hk24
  replace h_p0 := Sl.tr h_p0 ht28
  replace h_p1 := Sl.tr h_p1 ht28
  replace h_values := Sl.tr h_values ht28
  replace h11 := El.tr h11 ht28
  replace h17 := El.tr h17 ht28
  replace hK := Tr.trans hK ht28
  replace hB := Nat.le_trans hB ht28.ex.size
  replace hA := ht28.new
  refine V_y (Y_assign rfl) rfl rfl rfl ?_
  refine V_to (fun _ _ => rfl) ?_
  refine C_seq ?_
  refine C_region ?_
  have h29 := El_level_Policy_1 h11
  refine V_y (Y_fieldAddr Tryd.underlying39 rfl Tryd.sizeOf37 (by decide) rfl) rfl rfl rfl ?_
  obtain ⟨v30, h31, h32⟩ := El.list h29
  refine V_y (Y_load h31 Tryd.isAgg37 rfl) rfl rfl rfl ?_
  refine V_y (Y_makeFunc rfl rfl) rfl rfl rfl ?_
  obtain ⟨x34, hx34, hm⟩ := Option.bind_eq_some_iff.1 hm
  refine V_call Tryd.call68 rfl rfl rfl rfl (slices_IndexFunc_Llevel_Level_level_Level_c w21 hA p.levels v30 h32 (fun y46 => level_Policy_levelOf_1 y46 priority values) 69 #[] #[.pointer (some ⟨b14, 0, none⟩), .pointer (some ⟨b20, 0, none⟩)] Tryd.call69 (fun w42 A43 ht44 h45 y35 v36 h37 v38 h39 r40 h41 => (level_Policy_levelOf_1_c w42 h45 y35 v36 h37 v38 h39 priority b14 (El.tr h17 ht44) values b20 (El.tr h23 ht44) h41).mono (fun _ _ h => ⟨h.1, h.2⟩)) hx34) ?_
  rintro _ w47 ⟨rfl, hk48⟩
  have ht49 := Kp.tr hk48 hA hB
  replace hH := Hp.kp hH hk48
  replace h11 := El.tr h11 ht49
  replace h17 := El.tr h17 ht49
  replace h23 := El.tr h23 ht49
  replace h29 := El.tr h29 ht49
  replace h32 := Sl.tr h32 ht49
  replace hK := Tr.trans hK ht49
  replace hB := Nat.le_trans hB ht49.ex.size
  replace hA := ht49.new
  refine V_y (Y_assign rfl) rfl rfl rfl ?_
  refine V_to (fun _ _ => rfl) ?_
  obtain rfl := Option.some.inj hm
  refine C_ret ?_
  try simp only [↓inBlock_ret, ↓then_ret]
  exact retQ rfl (Res.one Tryd.results41 rfl) ⟨rfl, hK.kp⟩

set_option maxRecDepth 4000 in
set_option maxHeartbeats 4000000 in
theorem level_LevelOf_c (w : World) {A : Nat → Prop} (hA : ∀ b, w.heap.size ≤ b → A b) (p : level_Policy) (v_p0 : Value) (h_p0 : Sl A w v_p0 p.pauses) (v_p1 : Value) (h_p1 : Sl A w v_p1 p.levels) (priority : Int) (values : (List api_Value)) (v_values : Value) (h_values : Sl A w v_values values) {r : (Int × Int)} (hm : level_LevelOf p priority values = some r) : Ret Tryd.prog 15 #[.agg #[v_p0, v_p1], .int .i64 priority, v_values] w fun v w' => v = .tuple #[.int .i64 r.1, .int .i64 r.2] ∧ Kp w w' := by
  unfold level_LevelOf at hm
  refine enter Tryd.func15 rfl Tryd.ntmps15 rfl ?_
  have hA0 := hA
  have hB := Nat.le_refl w.heap.size
  have hK : Tr w.heap.size A w A w := Tr.refl hA
  have hH : Hp w.heap.size A w [] := Hp.nil
  refine C_seq ?_
  refine C_region ?_
  refine V_box rfl rfl ?_
  intro b7 w9 h10
  have hk12 := h10.kp
  have h11 : El (α := level_Policy) A w9 b7 0 p := h10.el hA ⟨[v_p0], _, rfl, ⟨_, rfl, h_p0⟩, ⟨_, rfl, h_p1⟩⟩
  have ht13 := Kp.tr hk12 hA hB
  replace hH := Hp.kp hH hk12
  replace h_p0 := Sl.tr h_p0 ht13
  replace h_p1 := Sl.tr h_p1 ht13
  replace h_values := Sl.tr h_values ht13
  replace hK := Tr.trans hK ht13
  replace hB := Nat.le_trans hB ht13.ex.size
  replace hA := ht13.new
  refine V_y (Y_assign rfl) rfl rfl rfl ?_
  refine V_y (Y_assign rfl) rfl rfl rfl ?_
  refine V_to (fun _ _ => rfl) ?_
  refine C_seq ?_
  refine C_seq ?_
  refine C_region ?_
  obtain ⟨v14, v16, h18, h15, h17⟩ := El_level_Policy h11
  refine V_y (Y_loadA h18 Tryd.isAgg39 Tryd.sizeOf39 rfl) rfl rfl rfl ?_
  obtain ⟨x19, hx19, hm⟩ := Option.bind_eq_some_iff.1 hm
  refine V_call Tryd.call22 rfl rfl rfl rfl (level_CheckPolicy_c w9 hA p v14 h15 v16 h17 hx19) ?_
  rintro _ w20 ⟨rfl, hk21⟩
  have ht22 := Kp.tr hk21 hA hB
  replace hH := Hp.kp hH hk21
  replace h_values := Sl.tr h_values ht22
  replace h11 := El.tr h11 ht22
  replace h15 := Sl.tr h15 ht22
  replace h17 := Sl.tr h17 ht22
  replace hK := Tr.trans hK ht22
  replace hB := Nat.le_trans hB ht22.ex.size
  replace hA := ht22.new
  refine V_y (Y_assign rfl) rfl rfl rfl ?_
  refine V_to (fun _ _ => rfl) ?_
  refine C_seq ?_
  refine C_region ?_
  refine V_y (Y_move rfl) rfl rfl rfl ?_
  refine V_y (Y_neq rfl rfl) rfl rfl rfl ?_
  refine V_to (fun _ _ => rfl) ?_
  refine C_cond rfl (fun hc23 => ?_) (fun hc23 => ?_)
  · rw [if_pos hc23] at hm
    refine C_seq ?_
    refine C_region ?_
    refine V_y (Y_move rfl) rfl rfl rfl ?_
    refine V_y (Y_assign rfl) rfl rfl rfl ?_
    refine V_y (Y_assign rfl) rfl rfl rfl ?_
    refine V_to (fun _ _ => rfl) ?_
    obtain rfl := Option.some.inj hm
    refine C_ret ?_
    try simp only [↓inBlock_ret, ↓then_ret]
    exact retQ rfl (Res.two Tryd.results15 rfl rfl) ⟨rfl, hK.kp⟩
  · rw [if_neg (nt hc23)] at hm
    refine C_skip_to (fun _ _ => rfl) ?_
    refine C_seq ?_
    refine C_seq ?_
    refine C_region ?_
    refine V_y (Y_move rfl) rfl rfl rfl ?_
    refine V_y (Y_lenSl h_values rfl Tryd.underlying40 rfl) rfl rfl rfl ?_
    refine V_y (Y_gtr rfl rfl) rfl rfl rfl ?_
    refine V_to (fun _ _ => rfl) ?_
    refine C_cond rfl (fun hc24 => ?_) (fun hc24 => ?_)
    · rw [if_pos hc24] at hm
      refine C_seq ?_
      refine C_region ?_
      refine V_y (Y_assign rfl) rfl rfl rfl ?_
      refine V_y (Y_assign rfl) rfl rfl rfl ?_
      refine V_to (fun _ _ => rfl) ?_
      obtain rfl := Option.some.inj hm
      refine C_ret ?_
      try simp only [↓inBlock_ret, ↓then_ret]
      exact retQ rfl (Res.two Tryd.results15 rfl rfl) ⟨rfl, hK.kp⟩
    · rw [if_neg (nt hc24)] at hm
      refine C_skip_to (fun _ _ => rfl) ?_
      refine C_seq ?_
      refine C_region ?_
      obtain ⟨v25, v27, h29, h26, h28⟩ := El_level_Policy h11
      refine V_y (Y_loadA h29 Tryd.isAgg39 Tryd.sizeOf39 rfl) rfl rfl rfl ?_
      refine V_y (Y_move rfl) rfl rfl rfl ?_
      refine V_y (Y_move rfl) rfl rfl rfl ?_
      obtain ⟨x30, hx30, hm⟩ := Option.bind_eq_some_iff.1 hm
      refine V_call Tryd.call41 rfl rfl rfl rfl (level_Policy_levelOf_c w20 hA p v25 h26 v27 h28 priority values v_values h_values hx30) ?_
      rintro _ w31 ⟨rfl, hk32⟩
      have ht33 := Kp.tr hk32 hA hB
      replace hH := Hp.kp hH hk32
      replace h_values := Sl.tr h_values ht33
      replace h11 := El.tr h11 ht33
      replace h26 := Sl.tr h26 ht33
      replace h28 := Sl.tr h28 ht33
      replace hK := Tr.trans hK ht33
      replace hB := Nat.le_trans hB ht33.ex.size
      replace hA := ht33.new
      refine V_y (Y_assign rfl) rfl rfl rfl ?_
      refine V_y (Y_assign rfl) rfl rfl rfl ?_
      refine V_to (fun _ _ => rfl) ?_
      obtain rfl := Option.some.inj hm
      refine C_ret ?_
      try simp only [↓inBlock_ret, ↓then_ret]
      exact retQ rfl (Res.two Tryd.results15 rfl rfl) ⟨rfl, hK.kp⟩

def Tryd_strings_Trim_lay_ren : Go.Shelf.Ren := ⟨fun | 119 => 162 | 120 => 161 | 137 => 59 | 151 => 155 | 152 => 160 | 160 => 109 | 197 => 118 | 217 => 94 | 224 => 115 | 225 => 114 | 227 => 135 | 228 => 154 | 231 => 133 | 232 => 134 | 233 => 136 | 234 => 137 | 235 => 138 | 236 => 139 | 260 => 144 | 266 => 112 | 271 => 156 | n => n, fun | 0 => 0 | 1 => 1 | 2 => 2 | 3 => 3 | 4 => 4 | 5 => 5 | 6 => 6 | 7 => 7 | 8 => 8 | 9 => 9 | 10 => 10 | 11 => 11 | 12 => 12 | 13 => 13 | 14 => 14 | 15 => 15 | 16 => 16 | 17 => 17 | 18 => 18 | 19 => 19 | 20 => 20 | 21 => 21 | 22 => 59 | 23 => 61 | 27 => 111 | 28 => 28 | 29 => 66 | 30 => 112 | 31 => 53 | 34 => 47 | 37 => 81 | 40 => 136 | 41 => 190 | 43 => 127 | 46 => 144 | 47 => 143 | 51 => 163 | 52 => 162 | 53 => 165 | 54 => 164 | 55 => 109 | 61 => 108 | 63 => 191 | 64 => 199 | 65 => 137 | 66 => 114 | 67 => 60 | 68 => 54 | 70 => 80 | 71 => 82 | 72 => 83 | 73 => 110 | 74 => 84 | 75 => 85 | 76 => 86 | 77 => 87 | 78 => 89 | 80 => 102 | 81 => 207 | 83 => 88 | 84 => 147 | 103 => 177 | 104 => 105 | 105 => 152 | 106 => 153 | 111 => 67 | 113 => 133 | 114 => 150 | 115 => 171 | 116 => 172 | 117 => 173 | 118 => 174 | 119 => 192 | 122 => 170 | 123 => 175 | 124 => 176 | 127 => 128 | 131 => 160 | 137 => 193 | 138 => 194 | 139 => 195 | 146 => 178 | 150 => 148 | 151 => 179 | 155 => 180 | 164 => 145 | 165 => 146 | 166 => 149 | 171 => 166 | 172 => 167 | 173 => 168 | 174 => 169 | 182 => 155 | 183 => 156 | 211 => 187 | 212 => 188 | 213 => 189 | 218 => 181 | 219 => 182 | 220 => 183 | 222 => 185 | 228 => 196 | 229 => 197 | 232 => 200 | 233 => 201 | 238 => 202 | 239 => 203 | 240 => 204 | 241 => 205 | 242 => 206 | 243 => 208 | 244 => 209 | 245 => 210 | 246 => 211 | 247 => 212 | 248 => 213 | 249 => 214 | n => n, fun | 1 => 2 | 3 => 4 | 4 => 5 | 17 => 3 | 18 => 6 | 19 => 7 | n => n⟩
theorem Tryd_strings_Trim_lay : Go.Proofs.Lays.n160 Tryd.prog Tryd_strings_Trim_lay_ren := {
  mixed := by kernel_rfl,
  f119 := Tryd.func162.trans (congrArg some (by kernel_rfl)),
  f120 := Tryd.func161.trans (congrArg some (by kernel_rfl)),
  f137 := Tryd.func59.trans (congrArg some (by kernel_rfl)),
  f151 := Tryd.func155.trans (congrArg some (by kernel_rfl)),
  f152 := Tryd.func160.trans (congrArg some (by kernel_rfl)),
  f160 := Tryd.func109.trans (congrArg some (by kernel_rfl)),
  f197 := Tryd.func118.trans (congrArg some (by kernel_rfl)),
  f217 := Tryd.func94.trans (congrArg some (by kernel_rfl)),
  f224 := Tryd.func115.trans (congrArg some (by kernel_rfl)),
  f225 := Tryd.func114.trans (congrArg some (by kernel_rfl)),
  f227 := Tryd.func135.trans (congrArg some (by kernel_rfl)),
  f228 := Tryd.func154.trans (congrArg some (by kernel_rfl)),
  f231 := Tryd.func133.trans (congrArg some (by kernel_rfl)),
  f232 := Tryd.func134.trans (congrArg some (by kernel_rfl)),
  f233 := Tryd.func136.trans (congrArg some (by kernel_rfl)),
  f234 := Tryd.func137.trans (congrArg some (by kernel_rfl)),
  f235 := Tryd.func138.trans (congrArg some (by kernel_rfl)),
  f236 := Tryd.func139.trans (congrArg some (by kernel_rfl)),
  f260 := Tryd.func144.trans (congrArg some (by kernel_rfl)),
  f266 := Tryd.func112.trans (congrArg some (by kernel_rfl)),
  f271 := Tryd.func156.trans (congrArg some (by kernel_rfl)),
  t0 := Tryd.underlying0,
  a0 := Tryd.isAgg0,
  z0 := Tryd.sizeOf0,
  v0 := Tryd.zeroValue0,
  t3 := Tryd.underlying3,
  a3 := Tryd.isAgg3,
  z3 := Tryd.sizeOf3,
  v3 := Tryd.zeroValue3,
  t4 := Tryd.underlying4,
  a4 := Tryd.isAgg4,
  z4 := Tryd.sizeOf4,
  v4 := Tryd.zeroValue4,
  t5 := Tryd.underlying5,
  a5 := Tryd.isAgg5,
  z5 := Tryd.sizeOf5,
  v5 := Tryd.zeroValue5,
  t9 := Tryd.underlying9,
  a9 := Tryd.isAgg9,
  z9 := Tryd.sizeOf9,
  v9 := Tryd.zeroValue9,
  t21 := Tryd.underlying21,
  a21 := Tryd.isAgg21,
  z21 := Tryd.sizeOf21,
  v21 := Tryd.zeroValue21,
  t46 := Tryd.underlying144,
  a46 := Tryd.isAgg144,
  z46 := Tryd.sizeOf144,
  v46 := Tryd.zeroValue144,
  t105 := Tryd.underlying152,
  a105 := Tryd.isAgg152,
  z105 := Tryd.sizeOf152,
  v105 := Tryd.zeroValue152,
  t116 := Tryd.underlying172,
  a116 := Tryd.isAgg172,
  z116 := Tryd.sizeOf172,
  t117 := Tryd.underlying173,
  a117 := Tryd.isAgg173,
  z117 := Tryd.sizeOf173,
  v117 := Tryd.zeroValue173,
  t119 := Tryd.underlying192,
  a119 := Tryd.isAgg192,
  z119 := Tryd.sizeOf192,
  t124 := Tryd.underlying176,
  a124 := Tryd.isAgg176,
  z124 := Tryd.sizeOf176,
  v124 := Tryd.zeroValue176,
  t138 := Tryd.underlying194,
  a138 := Tryd.isAgg194,
  z138 := Tryd.sizeOf194,
  v138 := Tryd.zeroValue194,
  t139 := Tryd.underlying195,
  a139 := Tryd.isAgg195,
  z139 := Tryd.sizeOf195,
  v139 := Tryd.zeroValue195,
  g3 := by kernel_rfl,
  g4 := by kernel_rfl }
theorem strings_Trim_c (w : World) {A : Nat → Prop} (hA : ∀ b, w.heap.size ≤ b → A b) (s : ByteArray) (cutset : ByteArray) {r : ByteArray} (hm : strings_Trim s cutset = some r) : Ret Tryd.prog 109 #[.string s, .string cutset] w fun v w' => v = .string r ∧ Kp w w' := by
  unfold strings_Trim at hm
  split at hm
  case isFalse => cases hm
  rename_i h
  obtain rfl := Option.some.inj hm
  refine Calls.mono (Go.Proofs.Any.strings_Trim_laid Tryd_strings_Trim_lay (by kernel_rfl) s cutset w h.1 h.2.1 (Go.Proofs.ascii_of_all h.2.2)) ?_
  rintro _ w' ⟨rfl, hk⟩
  exact ⟨_, rfl, rfl, hk⟩

set_option maxRecDepth 4000 in
set_option maxHeartbeats 4000000 in
theorem portref2_IsName_c (w : World) {A : Nat → Prop} (hA : ∀ b, w.heap.size ≤ b → A b) (s : ByteArray) {r : Bool} (hm : portref2_IsName s = some r) : Ret Tryd.prog 89 #[.string s] w fun v w' => v = .bool r ∧ Kp w w' := by
  unfold portref2_IsName at hm
  refine enter Tryd.func89 rfl Tryd.ntmps89 rfl ?_
  have hA0 := hA
  have hB := Nat.le_refl w.heap.size
  have hK : Tr w.heap.size A w A w := Tr.refl hA
  have hH : Hp w.heap.size A w [] := Hp.nil
  refine C_seq ?_
  refine C_region ?_
  refine V_y (Y_assign rfl) rfl rfl rfl ?_
  refine V_to (fun _ _ => rfl) ?_
  refine C_seq ?_
  obtain ⟨s2, ho1, hm⟩ := Option.bind_eq_some_iff.1 hm
  refine C_cutG (ι := (Nat → Prop)) (fun (A7 : (Nat → Prop)) => [(2, .bool s2)]) (fun (A7 : (Nat → Prop)) => fun w' => Hp w.heap.size A7 w' ([]) ∧ Tr w.heap.size A w A7 w') ?_ ?_
  · have hr3 : Tr w.heap.size A w A w := Tr.refl hA
    refine C_region ?_
    refine V_y (Y_move rfl) rfl rfl rfl ?_
    refine V_y (Y_lenStr rfl Tryd.underlying9 rfl) rfl rfl rfl ?_
    refine V_y (Y_geq rfl rfl) rfl rfl rfl ?_
    refine V_y (Y_move rfl) rfl rfl rfl ?_
    rcases Bool.eq_false_or_eq_true (decide ((1 : Int) ≤ (s.size : Int))) with hc9 | hc9
    · rw [if_pos hc9] at ho1
      refine V_ge rfl rfl rfl hc9 ?_
      refine V_y (Y_move rfl) rfl rfl rfl ?_
      refine V_ge rfl rfl rfl hc9 ?_
      refine V_y (Y_lenStr rfl Tryd.underlying9 rfl) rfl rfl rfl ?_
      refine V_ge rfl rfl rfl hc9 ?_
      refine V_y (Y_leq rfl rfl) rfl rfl rfl ?_
      refine V_y (Y_pick_te rfl hc9 rfl) rfl rfl rfl ?_
      refine V_y (Y_move rfl) rfl rfl rfl ?_
      rcases Bool.eq_false_or_eq_true (decide ((s.size : Int) ≤ 20)) with hc10 | hc10
      · rw [if_pos hc10] at ho1
        refine V_ge rfl rfl rfl hc10 ?_
        refine V_y (Y_move rfl) rfl rfl rfl ?_
        refine V_ge rfl rfl rfl hc10 ?_
        obtain ⟨x11, hx11, ho1⟩ := Option.bind_eq_some_iff.1 ho1
        refine V_call Tryd.call109 rfl rfl rfl rfl (strings_Trim_c w hA s (⟨#[97, 98, 99, 100, 101, 102, 103, 104, 105, 106, 107, 108, 109, 110, 111, 112, 113, 114, 115, 116, 117, 118, 119, 120, 121, 122, 48, 49, 50, 51, 52, 53, 54, 55, 56, 57, 95]⟩ : ByteArray) hx11) ?_
        rintro _ w12 ⟨rfl, hk13⟩
        have ht14 := Kp.tr hk13 hA hB
        replace hH := Hp.kp hH hk13
        replace hK := Tr.trans hK ht14
        replace hr3 := Tr.trans hr3 ht14
        replace hB := Nat.le_trans hB ht14.ex.size
        replace hA := ht14.new
        refine V_ge rfl rfl rfl hc10 ?_
        refine V_y (Y_seql rfl rfl) rfl rfl rfl ?_
        refine V_y (Y_pick_te rfl hc10 rfl) rfl rfl rfl ?_
        refine V_y (Y_assign rfl) rfl rfl rfl ?_
        obtain rfl := Option.some.inj ho1
        refine V_end (fun a ha15 => ?_)
        exact ⟨A, ha15.sub ⟨rfl, trivial⟩, ⟨hH, hr3⟩⟩
      · rw [if_neg (nt hc10)] at ho1
        refine V_gn rfl rfl rfl hc10 rfl rfl rfl ?_
        refine V_gn rfl rfl rfl hc10 rfl rfl rfl ?_
        refine V_gn rfl rfl rfl hc10 rfl rfl rfl ?_
        refine V_y (Y_pick_fe rfl hc10 rfl) rfl rfl rfl ?_
        refine V_y (Y_assign rfl) rfl rfl rfl ?_
        obtain rfl := Option.some.inj ho1
        refine V_end (fun a ha16 => ?_)
        exact ⟨A, ha16.sub ⟨rfl, trivial⟩, ⟨hH, hr3⟩⟩
    · rw [if_neg (nt hc9)] at ho1
      refine V_gn rfl rfl rfl hc9 rfl rfl rfl ?_
      refine V_gn rfl rfl rfl hc9 rfl rfl rfl ?_
      refine V_gn rfl rfl rfl hc9 rfl rfl rfl ?_
      refine V_y (Y_pick_fe rfl hc9 rfl) rfl rfl rfl ?_
      refine V_y (Y_move rfl) rfl rfl rfl ?_
      rcases Bool.eq_false_or_eq_true (false) with hc17 | hc17
      · rw [if_pos hc17] at ho1
        refine V_ge rfl rfl rfl hc17 ?_
        refine V_y (Y_move rfl) rfl rfl rfl ?_
        refine V_ge rfl rfl rfl hc17 ?_
        obtain ⟨x18, hx18, ho1⟩ := Option.bind_eq_some_iff.1 ho1
        refine V_call Tryd.call109 rfl rfl rfl rfl (strings_Trim_c w hA s (⟨#[97, 98, 99, 100, 101, 102, 103, 104, 105, 106, 107, 108, 109, 110, 111, 112, 113, 114, 115, 116, 117, 118, 119, 120, 121, 122, 48, 49, 50, 51, 52, 53, 54, 55, 56, 57, 95]⟩ : ByteArray) hx18) ?_
        rintro _ w19 ⟨rfl, hk20⟩
        have ht21 := Kp.tr hk20 hA hB
        replace hH := Hp.kp hH hk20
        replace hK := Tr.trans hK ht21
        replace hr3 := Tr.trans hr3 ht21
        replace hB := Nat.le_trans hB ht21.ex.size
        replace hA := ht21.new
        refine V_ge rfl rfl rfl hc17 ?_
        refine V_y (Y_seql rfl rfl) rfl rfl rfl ?_
        refine V_y (Y_pick_te rfl hc17 rfl) rfl rfl rfl ?_
        refine V_y (Y_assign rfl) rfl rfl rfl ?_
        obtain rfl := Option.some.inj ho1
        refine V_end (fun a ha22 => ?_)
        exact ⟨A, ha22.sub ⟨rfl, trivial⟩, ⟨hH, hr3⟩⟩
      · rw [if_neg (nt hc17)] at ho1
        refine V_gn rfl rfl rfl hc17 rfl rfl rfl ?_
        refine V_gn rfl rfl rfl hc17 rfl rfl rfl ?_
        refine V_gn rfl rfl rfl hc17 rfl rfl rfl ?_
        refine V_y (Y_pick_fe rfl hc17 rfl) rfl rfl rfl ?_
        refine V_y (Y_assign rfl) rfl rfl rfl ?_
        obtain rfl := Option.some.inj ho1
        refine V_end (fun a ha23 => ?_)
        exact ⟨A, ha23.sub ⟨rfl, trivial⟩, ⟨hH, hr3⟩⟩
  rintro A7 w4 ⟨hH8, hk5⟩ a ha6
  replace hK := Tr.trans hK hk5
  replace hB := Nat.le_trans hB hk5.ex.size
  replace hA := hk5.new
  replace hH : Hp w.heap.size A7 w4 ([]) := hH8
  refine C_at (n := ⟨16, [], none⟩) (fun _ _ => rfl) ?_ ha6
  obtain rfl := Option.some.inj hm
  refine C_ret ?_
  try simp only [↓inBlock_ret, ↓then_ret]
  exact retQ rfl (Res.one Tryd.results89 rfl) ⟨rfl, hK.kp⟩

set_option maxRecDepth 4000 in
set_option maxHeartbeats 4000000 in
theorem slices_ContainsFunc_Llevel_Level_level_Level_c (w : World) {A : Nat → Prop} (hA : ∀ b, w.heap.size ≤ b → A b) (s : (List level_Level)) (v_s : Value) (h_s : Sl A w v_s s) (f : level_Level → Option Bool) (f_f : FuncId) (f_a f_c : Array Value) (f_call : ∀ (args : Array Value) (w : World), (callFunc f_f args).run Tryd.prog w = .ok (.enter f_f args) w) (f_spec : ∀ (w1 : World) (A1 : Nat → Prop), Tr w.heap.size A w A1 w1 → (∀ b, w1.heap.size ≤ b → A1 b) → ∀ (y0 : level_Level) (v1 : Value) (h2 : Sl A1 w1 v1 y0.tests) (v3 : Value) (h4 : Sl A1 w1 v3 y0.targets) (r : Bool), f y0 = some r → Ret Tryd.prog f_f (f_a ++ #[.agg #[.string y0.name, v1, v3]] ++ f_c) w1 fun v w' => v = .bool r ∧ Kp w1 w') {r : Bool} (hm : slices_ContainsFunc_Llevel_Level_level_Level s f = some r) : Ret Tryd.prog 90 #[v_s, .func (.func f_f) f_a f_c] w fun v w' => v = .bool r ∧ Kp w w' := by
  unfold slices_ContainsFunc_Llevel_Level_level_Level at hm
  refine enter Tryd.func90 rfl Tryd.ntmps90 rfl ?_
  have hA0 := hA
  have hB := Nat.le_refl w.heap.size
  have hK : Tr w.heap.size A w A w := Tr.refl hA
  have hH : Hp w.heap.size A w [] := Hp.nil
  refine C_seq ?_
  refine C_region ?_
  refine V_y (Y_assign rfl) rfl rfl rfl ?_
  refine V_to (fun _ _ => rfl) ?_
  refine C_seq ?_
  refine C_region ?_
  refine V_y (Y_move rfl) rfl rfl rfl ?_
  refine V_y (Y_move rfl) rfl rfl rfl ?_
  obtain ⟨x3, hx3, hm⟩ := Option.bind_eq_some_iff.1 hm
  refine V_call Tryd.call68 rfl rfl rfl rfl (slices_IndexFunc_Llevel_Level_level_Level_c w hA s v_s h_s f f_f f_a f_c f_call (fun w1 A1 ht => f_spec w1 A1 (Tr.trans hK ht)) hx3) ?_
  rintro _ w4 ⟨rfl, hk5⟩
  have ht6 := Kp.tr hk5 hA hB
  replace hH := Hp.kp hH hk5
  replace h_s := Sl.tr h_s ht6
  replace hK := Tr.trans hK ht6
  replace hB := Nat.le_trans hB ht6.ex.size
  replace hA := ht6.new
  refine V_y (Y_geq rfl rfl) rfl rfl rfl ?_
  refine V_y (Y_assign rfl) rfl rfl rfl ?_
  refine V_to (fun _ _ => rfl) ?_
  obtain rfl := Option.some.inj hm
  refine C_ret ?_
  try simp only [↓inBlock_ret, ↓then_ret]
  exact retQ rfl (Res.one Tryd.results90 rfl) ⟨rfl, hK.kp⟩

set_option maxRecDepth 4000 in
set_option maxHeartbeats 4000000 in
theorem portref2_levelFault_1_c (w : World) {A : Nat → Prop} (hA : ∀ b, w.heap.size ≤ b → A b) (y : level_Level) (v_y0 : Value) (h_y0 : Sl A w v_y0 y.tests) (v_y1 : Value) (h_y1 : Sl A w v_y1 y.targets) (p1 : level_Level) (b_p1 : Nat) (h_p1 : El A w b_p1 0 p1) {r : Bool} (hm : portref2_levelFault_1 y p1 = some r) : Ret Tryd.prog 91 #[.agg #[.string y.name, v_y0, v_y1], .pointer (some ⟨b_p1, 0, none⟩)] w fun v w' => v = .bool r ∧ Kp w w' := by
  unfold portref2_levelFault_1 at hm
  refine enter Tryd.func91 rfl Tryd.ntmps91 rfl ?_
  have hA0 := hA
  have hB := Nat.le_refl w.heap.size
  have hK : Tr w.heap.size A w A w := Tr.refl hA
  have hH : Hp w.heap.size A w [] := Hp.nil
  refine C_seq ?_
  refine C_region ?_
  refine V_box rfl rfl ?_
  intro b5 w6 h7
  have hk9 := h7.kp
  have h8 : El (α := level_Level) A w6 b5 0 y := h7.el hA ⟨[.string y.name], _, rfl, rfl, ⟨[v_y0], _, rfl, ⟨_, rfl, h_y0⟩, ⟨_, rfl, h_y1⟩⟩⟩
  have ht10 := Kp.tr hk9 hA hB
  replace hH := Hp.kp hH hk9
  replace h_y0 := Sl.tr h_y0 ht10
  replace h_y1 := Sl.tr h_y1 ht10
  replace h_p1 := El.tr h_p1 ht10
  replace hK := Tr.trans hK ht10
  replace hB := Nat.le_trans hB ht10.ex.size
  replace hA := ht10.new
  refine V_y (Y_assign rfl) rfl rfl rfl ?_
  refine V_to (fun _ _ => rfl) ?_
  refine C_seq ?_
  refine C_region ?_
  have h11 := El_level_Level_0 h8
  refine V_y (Y_fieldAddr Tryd.underlying93 rfl Tryd.sizeOf9 (by decide) rfl) rfl rfl rfl ?_
  refine V_y (Y_load (El.str h11) Tryd.isAgg9 rfl) rfl rfl rfl ?_
  have h12 := El_level_Level_0 h_p1
  refine V_y (Y_fieldAddr Tryd.underlying93 rfl Tryd.sizeOf9 (by decide) rfl) rfl rfl rfl ?_
  refine V_y (Y_load (El.str h12) Tryd.isAgg9 rfl) rfl rfl rfl ?_
  refine V_y (Y_seql rfl rfl) rfl rfl rfl ?_
  refine V_y (Y_assign rfl) rfl rfl rfl ?_
  refine V_to (fun _ _ => rfl) ?_
  obtain rfl := Option.some.inj hm
  refine C_ret ?_
  try simp only [↓inBlock_ret, ↓then_ret]
  exact retQ rfl (Res.one Tryd.results91 rfl) ⟨rfl, hK.kp⟩

set_option maxRecDepth 4000 in
set_option maxHeartbeats 4000000 in
theorem portref2_IsMoment_c (w : World) (m : Int) : Ret Tryd.prog 37 #[.int .i64 m] w fun v w' => v = .bool (portref2_IsMoment m) ∧ w = w' := by
  generalize hm : portref2_IsMoment m = r
  unfold portref2_IsMoment at hm
  refine enter Tryd.func37 rfl Tryd.ntmps37 rfl ?_
  refine C_seq ?_
  refine C_region ?_
  refine V_y (Y_assign rfl) rfl rfl rfl ?_
  refine V_to (fun _ _ => rfl) ?_
  refine C_seq ?_
  refine C_region ?_
  refine V_y (Y_move rfl) rfl rfl rfl ?_
  refine V_y (Y_geq rfl rfl) rfl rfl rfl ?_
  refine V_y (Y_move rfl) rfl rfl rfl ?_
  refine V_cut 3 (fun _ : Unit => [(8, .bool ((decide ((0 : Int) ≤ m)) && (decide (m ≤ 3000000))))]) (fun _ w' => w = w') ?_ ?_
  · simp only [List.take, List.drop]
    rcases Bool.eq_false_or_eq_true (decide ((0 : Int) ≤ m)) with hc1 | hc1
    · refine V_ge rfl rfl rfl hc1 ?_
      refine V_y (Y_move rfl) rfl rfl rfl ?_
      refine V_ge rfl rfl rfl hc1 ?_
      refine V_y (Y_leq rfl rfl) rfl rfl rfl ?_
      refine V_y (Y_pick_te rfl hc1 rfl) rfl rfl rfl ?_
      exact V_end fun a ha => ⟨(), ha.sub ⟨(by rw [hc1]; rfl), trivial⟩, rfl⟩
    · refine V_gn rfl rfl rfl hc1 rfl rfl rfl ?_
      refine V_gn rfl rfl rfl hc1 rfl rfl rfl ?_
      refine V_y (Y_pick_fe rfl hc1 rfl) rfl rfl rfl ?_
      exact V_end fun a ha => ⟨(), ha.sub ⟨(by rw [hc1]; rfl), trivial⟩, rfl⟩
  simp only [List.take, List.drop]
  rintro _ _ rfl
  refine V_y (Y_assign rfl) rfl rfl rfl ?_
  refine V_to (fun _ _ => rfl) ?_
  obtain rfl := hm
  refine C_ret ?_
  try simp only [↓inBlock_ret, ↓then_ret]
  exact retQ rfl (Res.one Tryd.results37 rfl) ⟨rfl, rfl⟩

set_option maxRecDepth 4000 in
set_option maxHeartbeats 4000000 in
theorem portref2_lowByte_1_c (w : World) (r_ : Int) : Ret Tryd.prog 99 #[.int .i32 r_] w fun v w' => v = .bool (portref2_lowByte_1 r_) ∧ w = w' := by
  generalize hm : portref2_lowByte_1 r_ = r
  unfold portref2_lowByte_1 at hm
  refine enter Tryd.func99 rfl Tryd.ntmps99 rfl ?_
  refine C_seq ?_
  refine C_region ?_
  refine V_y (Y_assign rfl) rfl rfl rfl ?_
  refine V_to (fun _ _ => rfl) ?_
  refine C_seq ?_
  refine C_region ?_
  refine V_y (Y_move rfl) rfl rfl rfl ?_
  refine V_y (Y_lss rfl rfl) rfl rfl rfl ?_
  refine V_y (Y_move rfl) rfl rfl rfl ?_
  refine V_cut 3 (fun _ : Unit => [(8, .bool ((decide (r_ < 32)) || (r_ == 127)))]) (fun _ w' => w = w') ?_ ?_
  · simp only [List.take, List.drop]
    rcases Bool.eq_false_or_eq_true (decide (r_ < 32)) with hc1 | hc1
    · refine V_gn rfl rfl rfl hc1 rfl rfl rfl ?_
      refine V_gn rfl rfl rfl hc1 rfl rfl rfl ?_
      refine V_y (Y_pick_te rfl hc1 rfl) rfl rfl rfl ?_
      exact V_end fun a ha => ⟨(), ha.sub ⟨(by rw [hc1]; rfl), trivial⟩, rfl⟩
    · refine V_ge rfl rfl rfl hc1 ?_
      refine V_y (Y_move rfl) rfl rfl rfl ?_
      refine V_ge rfl rfl rfl hc1 ?_
      refine V_y (Y_eql rfl rfl) rfl rfl rfl ?_
      refine V_y (Y_pick_fe rfl hc1 rfl) rfl rfl rfl ?_
      exact V_end fun a ha => ⟨(), ha.sub ⟨(by rw [hc1]; rfl), trivial⟩, rfl⟩
  simp only [List.take, List.drop]
  rintro _ _ rfl
  refine V_y (Y_assign rfl) rfl rfl rfl ?_
  refine V_to (fun _ _ => rfl) ?_
  obtain rfl := hm
  refine C_ret ?_
  try simp only [↓inBlock_ret, ↓then_ret]
  exact retQ rfl (Res.one Tryd.results99 rfl) ⟨rfl, rfl⟩

set_option maxRecDepth 4000 in
set_option maxHeartbeats 4000000 in
theorem portref2_lowByte_c (w : World) {A : Nat → Prop} (hA : ∀ b, w.heap.size ≤ b → A b) (s : ByteArray) {r : Bool} (hm : portref2_lowByte s = some r) : Ret Tryd.prog 66 #[.string s] w fun v w' => v = .bool r ∧ Kp w w' := by
  unfold portref2_lowByte at hm
  refine enter Tryd.func66 rfl Tryd.ntmps66 rfl ?_
  have hA0 := hA
  have hB := Nat.le_refl w.heap.size
  have hK : Tr w.heap.size A w A w := Tr.refl hA
  have hH : Hp w.heap.size A w [] := Hp.nil
  refine C_seq ?_
  refine C_region ?_
  refine V_y (Y_assign rfl) rfl rfl rfl ?_
  refine V_to (fun _ _ => rfl) ?_
  refine C_seq ?_
  refine C_region ?_
  refine V_y (Y_move rfl) rfl rfl rfl ?_
  refine V_call Tryd.call98 rfl rfl rfl rfl (contains_wrap (Go.Proofs.Any.strings_ContainsFunc_grows Tryd_contains_lay 99 #[] (fun args w => Tryd.call99 args w) (fun y => portref2_lowByte_1 (y : Int)) s w (fun W x _ _ => Calls.mono (portref2_lowByte_1_c W (x : Int)) fun _ _ h => contains_fn h))) ?_
  rintro _ w1 ⟨rfl, hk2⟩
  have ht3 := Kp.tr hk2 hA hB
  replace hH := Hp.kp hH hk2
  replace hK := Tr.trans hK ht3
  replace hB := Nat.le_trans hB ht3.ex.size
  replace hA := ht3.new
  refine V_y (Y_assign rfl) rfl rfl rfl ?_
  refine V_to (fun _ _ => rfl) ?_
  obtain rfl := Option.some.inj hm
  refine C_ret ?_
  try simp only [↓inBlock_ret, ↓then_ret]
  exact retQ rfl (Res.one Tryd.results66 rfl) ⟨rfl, hK.kp⟩

end Go.Proofs.YtcokjipcmpfgbaaDoor.W
