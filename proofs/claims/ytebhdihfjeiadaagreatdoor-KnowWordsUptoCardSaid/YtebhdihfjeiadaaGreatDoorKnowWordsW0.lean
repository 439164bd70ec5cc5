/-
  Written by program (gen.py) from the IR of the dump: each function computes its model.
-/
import Derived.Test.YtebhdihfjeiadaaGreatDoorProg
import Derived.Test.YtebhdihfjeiadaaGreatDoorGe
import Derived.Test.YtebhdihfjeiadaaGreatDoorKnowWordsM
import Derived.KernelRfl
import Derived.Test.YtebhdihfjeiadaaGreatDoorGd
import Derived.Test.YtebhdihfjeiadaaGreatDoorHq
import Derived.Test.YtebhdihfjeiadaaGreatDoorGi
import Derived.Test.YtebhdihfjeiadaaGreatDoorSq
import Derived.Test.YtebhdihfjeiadaaGreatDoorGy
import Derived.Test.YtebhdihfjeiadaaGreatDoorHc
import Derived.Test.YtebhdihfjeiadaaGreatDoorPl
import Derived.Shelf.Strings.Count
import Derived.Tactics
import Derived.Tactics2
import Derived.Defers
import Derived.Laws.Pointers
import Derived.Laws.LoneSync
import Derived.RegionTactic
import Derived.RegionCalls
import Derived.ChangeAlike
import Derived.Shelf.Strings.Count
import Derived.Tactics
import Derived.Tactics2
import Derived.Defers
import Derived.Laws.Pointers
import Derived.Laws.LoneSync
import Derived.RegionTactic
import Derived.RegionCalls
import Derived.ChangeAlike
import Derived.Shelf.Strconv.AtoiAll
import Derived.Lib.AtoiErrMem
import Derived.Shelf.Strings.SlTrimAscii
import Derived.Test.YtebhdihfjeiadaaGreatDoorGi
import Derived.Test.YtebhdihfjeiadaaGreatDoorHc
import Derived.Test.YtebhdihfjeiadaaGreatDoorGg
import Derived.Test.YtebhdihfjeiadaaGreatDoorHi
import Derived.Test.YtebhdihfjeiadaaGreatDoorHd
import Derived.Test.YtebhdihfjeiadaaGreatDoorHf
import Derived.Shelf.Slices.CompactI
import Derived.Test.YtebhdihfjeiadaaGreatDoorGz
import Derived.Shelf.Sort.Plain
import Derived.Shelf.Slices.In.SortNone
namespace Go.Proofs.YtebhdihfjeiadaaGreatDoor.W
open Go Go.RowKit Go.Pu Go.Gw Go.Proofs Go.Proofs.YtebhdihfjeiadaaGreatDoor.M
set_option linter.unusedVariables false
set_option linter.unusedSimpArgs false
variable {Dw : Prop}

def Tryz_FR : (Nat → Prop) → World → Prop := fun A w => Er Tryz.prog 0 A w ∧ Er Tryz.prog 1 A w
instance : Keeps Tryz_FR := ⟨fun h hh hs => ⟨Keeps.to (R := Er Tryz.prog 0) ((h).1) hh hs, Keeps.to (R := Er Tryz.prog 1) ((h).2) hh hs⟩⟩
theorem Tryz_info3 : Tryz.prog.info? 3 = some Tryz.t3 := by kernel_rfl
theorem Tryz_info9 : Tryz.prog.info? 9 = some Tryz.t9 := by kernel_rfl
def Tryz_so_ren : Go.Shelf.Ren := ⟨fun | 125 => 39 | 128 => 57 | 129 => 58 | 189 => 24 | 215 => 75 | 216 => 54 | 257 => 38 | 294 => 48 | 295 => 49 | 296 => 50 | 297 => 51 | 298 => 52 | 299 => 53 | 300 => 55 | 301 => 56 | 328 => 70 | 329 => 71 | 330 => 72 | 331 => 73 | 332 => 74 | 343 => 90 | n => n, fun | 0 => 0 | 1 => 1 | 2 => 2 | 3 => 3 | 4 => 4 | 5 => 5 | 6 => 6 | 7 => 7 | 8 => 8 | 9 => 9 | 10 => 10 | 11 => 11 | 12 => 12 | 13 => 13 | 14 => 14 | 15 => 15 | 16 => 16 | 17 => 17 | 18 => 18 | 19 => 19 | 20 => 20 | 21 => 21 | 22 => 32 | 23 => 33 | 27 => 130 | 28 => 28 | 31 => 22 | 34 => 27 | 35 => 34 | 37 => 42 | 40 => 128 | 41 => 31 | 46 => 52 | 47 => 51 | 51 => 57 | 52 => 83 | 53 => 85 | 54 => 84 | 55 => 127 | 63 => 73 | 64 => 95 | 68 => 23 | 69 => 25 | 70 => 191 | 71 => 192 | 72 => 193 | 73 => 195 | 74 => 36 | 75 => 37 | 76 => 38 | 77 => 39 | 80 => 176 | 81 => 182 | 83 => 108 | 84 => 153 | 85 => 87 | 86 => 88 | 94 => 210 | 101 => 26 | 102 => 24 | 103 => 194 | 104 => 30 | 105 => 71 | 106 => 72 | 108 => 107 | 111 => 102 | 112 => 79 | 114 => 129 | 115 => 44 | 116 => 45 | 117 => 46 | 118 => 47 | 119 => 117 | 122 => 43 | 123 => 48 | 124 => 49 | 127 => 135 | 128 => 53 | 131 => 81 | 134 => 50 | 137 => 124 | 138 => 125 | 139 => 126 | 143 => 136 | 144 => 137 | 145 => 138 | 146 => 211 | 151 => 212 | 164 => 158 | 165 => 196 | 166 => 197 | 167 => 86 | 168 => 89 | 169 => 90 | 170 => 91 | 171 => 164 | 172 => 165 | 173 => 166 | 174 => 167 | 175 => 103 | 176 => 104 | 181 => 74 | 182 => 75 | 183 => 76 | 184 => 77 | 185 => 78 | 186 => 80 | 187 => 82 | 209 => 105 | 210 => 106 | 211 => 171 | 212 => 172 | 213 => 173 | 214 => 134 | 218 => 96 | 219 => 97 | 220 => 98 | 221 => 99 | 222 => 100 | 223 => 101 | 228 => 131 | 229 => 132 | 230 => 133 | 232 => 174 | 233 => 175 | 238 => 177 | 239 => 178 | 240 => 179 | 241 => 180 | 242 => 181 | 243 => 183 | 244 => 184 | 245 => 185 | 246 => 186 | 247 => 187 | 248 => 188 | 249 => 189 | n => n, fun | 1 => 4 | 3 => 2 | 4 => 3 | 15 => 0 | 16 => 1 | 17 => 5 | 18 => 6 | 19 => 7 | n => n⟩
theorem Tryz_so : Go.Proofs.Lays.n189 Tryz.prog Tryz_so_ren := {
  mixed := by kernel_rfl,
  f125 := Tryz.func39.trans (congrArg some (by kernel_rfl)),
  f128 := Tryz.func57.trans (congrArg some (by kernel_rfl)),
  f129 := Tryz.func58.trans (congrArg some (by kernel_rfl)),
  f189 := Tryz.func24.trans (congrArg some (by kernel_rfl)),
  f215 := Tryz.func75.trans (congrArg some (by kernel_rfl)),
  f216 := Tryz.func54.trans (congrArg some (by kernel_rfl)),
  f257 := Tryz.func38.trans (congrArg some (by kernel_rfl)),
  f294 := Tryz.func48.trans (congrArg some (by kernel_rfl)),
  f295 := Tryz.func49.trans (congrArg some (by kernel_rfl)),
  f296 := Tryz.func50.trans (congrArg some (by kernel_rfl)),
  f297 := Tryz.func51.trans (congrArg some (by kernel_rfl)),
  f298 := Tryz.func52.trans (congrArg some (by kernel_rfl)),
  f299 := Tryz.func53.trans (congrArg some (by kernel_rfl)),
  f300 := Tryz.func55.trans (congrArg some (by kernel_rfl)),
  f301 := Tryz.func56.trans (congrArg some (by kernel_rfl)),
  f328 := Tryz.func70.trans (congrArg some (by kernel_rfl)),
  f329 := Tryz.func71.trans (congrArg some (by kernel_rfl)),
  f330 := Tryz.func72.trans (congrArg some (by kernel_rfl)),
  f331 := Tryz.func73.trans (congrArg some (by kernel_rfl)),
  f332 := Tryz.func74.trans (congrArg some (by kernel_rfl)),
  f343 := Tryz.func90.trans (congrArg some (by kernel_rfl)),
  t0 := Tryz.underlying0,
  a0 := Tryz.isAgg0,
  z0 := Tryz.sizeOf0,
  v0 := Tryz.zeroValue0,
  t3 := Tryz.underlying3,
  a3 := Tryz.isAgg3,
  z3 := Tryz.sizeOf3,
  v3 := Tryz.zeroValue3,
  t4 := Tryz.underlying4,
  a4 := Tryz.isAgg4,
  z4 := Tryz.sizeOf4,
  v4 := Tryz.zeroValue4,
  t5 := Tryz.underlying5,
  a5 := Tryz.isAgg5,
  z5 := Tryz.sizeOf5,
  v5 := Tryz.zeroValue5,
  t9 := Tryz.underlying9,
  a9 := Tryz.isAgg9,
  z9 := Tryz.sizeOf9,
  v9 := Tryz.zeroValue9,
  t28 := Tryz.underlying28,
  a28 := Tryz.isAgg28,
  z28 := Tryz.sizeOf28,
  v28 := Tryz.zeroValue28,
  t46 := Tryz.underlying52,
  a46 := Tryz.isAgg52,
  z46 := Tryz.sizeOf52,
  v46 := Tryz.zeroValue52,
  t51 := Tryz.underlying57,
  a51 := Tryz.isAgg57,
  z51 := Tryz.sizeOf57,
  v51 := Tryz.zeroValue57,
  t53 := Tryz.underlying85,
  a53 := Tryz.isAgg85,
  z53 := Tryz.sizeOf85,
  v53 := Tryz.zeroValue85,
  t131 := Tryz.underlying81,
  a131 := Tryz.isAgg81,
  z131 := Tryz.sizeOf81,
  v131 := Tryz.zeroValue81,
  t182 := Tryz.underlying75,
  a182 := Tryz.isAgg75,
  z182 := Tryz.sizeOf75,
  v182 := Tryz.zeroValue75,
  t183 := Tryz.underlying76,
  a183 := Tryz.isAgg76,
  z183 := Tryz.sizeOf76,
  v183 := Tryz.zeroValue76,
  t218 := Tryz.underlying96,
  a218 := Tryz.isAgg96,
  z218 := Tryz.sizeOf96,
  v218 := Tryz.zeroValue96,
  t222 := Tryz.underlying100,
  a222 := Tryz.isAgg100,
  z222 := Tryz.sizeOf100,
  v222 := Tryz.zeroValue100,
  t228 := Tryz.underlying131,
  a228 := Tryz.isAgg131,
  z228 := Tryz.sizeOf131,
  v228 := Tryz.zeroValue131,
  t229 := Tryz.underlying132,
  a229 := Tryz.isAgg132,
  z229 := Tryz.sizeOf132,
  v229 := Tryz.zeroValue132 }
theorem Tryz_sortInts {B : Nat} {A : Nat → Prop} {w : World} {L : List Ob} {i : Nat} {e : TypeId} {v : Value} {l r : List Int} (hH : Hp B A w L) (hi : L[i]? = some (obS (α := Int) e v l)) (hB : B ≤ w.heap.size) (hA : ∀ b, w.heap.size ≤ b → A b) (hr : sortIntsL l = some r) : Ret Tryz.prog 24 #[v] w fun u w' => u = .tuple #[] ∧ Hp B A w' (L.set i (obS e v r)) ∧ Tr Dw B A w A w' :=
  Hp.sortInts (Dw := Dw) (fun w => Go.Proofs.Any.slices_Sort_int_none Tryz_so none 0 w) (fun blk off cap zs w h1 h2 h3 => Go.Proofs.Any.slices_Sort_int Tryz_so blk off cap zs w h1 h2 h3) hH hi hB hA hr
theorem Tryz_mixed : Tryz.prog.follows .mixedOrders = true := by kernel_rfl



set_option maxRecDepth 4000 in
set_option maxHeartbeats 4000000 in
theorem portref2_isWordByte_c (w : World) (b : Int) : Ret Tryz.prog 15 #[.int .u8 b] w fun v w' => v = .bool (portref2_isWordByte b) ∧ w = w' := by
  generalize hm : portref2_isWordByte b = r
  unfold portref2_isWordByte at hm
  refine enter Tryz.func15 rfl Tryz.ntmps15 rfl ?_
  refine C_seq ?_
  refine C_region ?_
  refine V_y (Y_assign rfl) rfl rfl rfl ?_
  refine V_to (fun _ _ => rfl) ?_
  refine C_seq ?_
  refine C_region ?_
  refine V_y (Y_move rfl) rfl rfl rfl ?_
  refine V_y (Y_geq rfl rfl) rfl rfl rfl ?_
  refine V_y (Y_move rfl) rfl rfl rfl ?_
  refine V_cut 3 (fun _ : Unit => [(0, .int .u8 b), (8, .bool ((decide ((97 : Int) ≤ b)) && (decide (b ≤ 122))))]) (fun _ w' => w = w') ?_ ?_
  · simp only [List.take, List.drop]
    rcases Bool.eq_false_or_eq_true (decide ((97 : Int) ≤ b)) with hc1 | hc1
    · refine V_ge rfl rfl rfl hc1 ?_
      refine V_y (Y_move rfl) rfl rfl rfl ?_
      refine V_ge rfl rfl rfl hc1 ?_
      refine V_y (Y_leq rfl rfl) rfl rfl rfl ?_
      refine V_y (Y_pick_te rfl hc1 rfl) rfl rfl rfl ?_
      exact V_end fun a ha => ⟨(), ha.sub ⟨rfl, (by rw [hc1]; rfl), trivial⟩, rfl⟩
    · refine V_gn rfl rfl rfl hc1 rfl rfl rfl ?_
      refine V_gn rfl rfl rfl hc1 rfl rfl rfl ?_
      refine V_y (Y_pick_fe rfl hc1 rfl) rfl rfl rfl ?_
      exact V_end fun a ha => ⟨(), ha.sub ⟨rfl, (by rw [hc1]; rfl), trivial⟩, rfl⟩
  simp only [List.take, List.drop]
  rintro _ _ rfl
  refine V_y (Y_move rfl) rfl rfl rfl ?_
  refine V_cut 7 (fun _ : Unit => [(0, .int .u8 b), (16, .bool (((decide ((97 : Int) ≤ b)) && (decide (b ≤ 122))) || ((decide ((65 : Int) ≤ b)) && (decide (b ≤ 90)))))]) (fun _ w' => w = w') ?_ ?_
  · simp only [List.take, List.drop]
    rcases Bool.eq_false_or_eq_true (((decide ((97 : Int) ≤ b)) && (decide (b ≤ 122)))) with hc3 | hc3
    · refine V_gn rfl rfl rfl hc3 rfl rfl rfl ?_
      refine V_gn rfl rfl rfl hc3 rfl rfl rfl ?_
      refine V_gn rfl rfl rfl hc3 rfl rfl rfl ?_
      refine V_gu rfl rfl rfl rfl rfl ?_
      refine V_gu rfl rfl rfl rfl rfl ?_
      refine V_gn rfl rfl rfl hc3 rfl rfl rfl ?_
      refine V_y (Y_pick_te rfl hc3 rfl) rfl rfl rfl ?_
      exact V_end fun a ha => ⟨(), ha.sub ⟨rfl, (by rw [hc3]; rfl), trivial⟩, rfl⟩
    · refine V_ge rfl rfl rfl hc3 ?_
      refine V_y (Y_move rfl) rfl rfl rfl ?_
      refine V_ge rfl rfl rfl hc3 ?_
      refine V_y (Y_geq rfl rfl) rfl rfl rfl ?_
      refine V_ge rfl rfl rfl hc3 ?_
      refine V_y (Y_move rfl) rfl rfl rfl ?_
      refine V_cut 3 (fun _ : Unit => [(0, .int .u8 b), (9, .bool ((decide ((97 : Int) ≤ b)) && (decide (b ≤ 122)))), (15, .bool ((decide ((65 : Int) ≤ b)) && (decide (b ≤ 90))))]) (fun _ w' => w = w') ?_ ?_
      · simp only [List.take, List.drop]
        rcases Bool.eq_false_or_eq_true (decide ((65 : Int) ≤ b)) with hc5 | hc5
        · refine V_ge rfl rfl rfl hc5 ?_
          refine V_y (Y_move rfl) rfl rfl rfl ?_
          refine V_ge rfl rfl rfl hc5 ?_
          refine V_y (Y_leq rfl rfl) rfl rfl rfl ?_
          refine V_ge rfl rfl rfl hc3 ?_
          refine V_y (Y_pick_te rfl hc5 rfl) rfl rfl rfl ?_
          exact V_end fun a ha => ⟨(), ha.sub ⟨rfl, rfl, (by rw [hc5]; rfl), trivial⟩, rfl⟩
        · refine V_gn rfl rfl rfl hc5 rfl rfl rfl ?_
          refine V_gn rfl rfl rfl hc5 rfl rfl rfl ?_
          refine V_ge rfl rfl rfl hc3 ?_
          refine V_y (Y_pick_fe rfl hc5 rfl) rfl rfl rfl ?_
          exact V_end fun a ha => ⟨(), ha.sub ⟨rfl, rfl, (by rw [hc5]; rfl), trivial⟩, rfl⟩
      simp only [List.take, List.drop]
      rintro _ _ rfl
      refine V_y (Y_pick_fe rfl hc3 rfl) rfl rfl rfl ?_
      exact V_end fun a ha => ⟨(), ha.sub ⟨rfl, (by rw [hc3]; rfl), trivial⟩, rfl⟩
  simp only [List.take, List.drop]
  rintro _ _ rfl
  refine V_y (Y_move rfl) rfl rfl rfl ?_
  refine V_cut 7 (fun _ : Unit => [(0, .int .u8 b), (24, .bool ((((decide ((97 : Int) ≤ b)) && (decide (b ≤ 122))) || ((decide ((65 : Int) ≤ b)) && (decide (b ≤ 90)))) || ((decide ((48 : Int) ≤ b)) && (decide (b ≤ 57)))))]) (fun _ w' => w = w') ?_ ?_
  · simp only [List.take, List.drop]
    rcases Bool.eq_false_or_eq_true ((((decide ((97 : Int) ≤ b)) && (decide (b ≤ 122))) || ((decide ((65 : Int) ≤ b)) && (decide (b ≤ 90))))) with hc7 | hc7
    · refine V_gn rfl rfl rfl hc7 rfl rfl rfl ?_
      refine V_gn rfl rfl rfl hc7 rfl rfl rfl ?_
      refine V_gn rfl rfl rfl hc7 rfl rfl rfl ?_
      refine V_gu rfl rfl rfl rfl rfl ?_
      refine V_gu rfl rfl rfl rfl rfl ?_
      refine V_gn rfl rfl rfl hc7 rfl rfl rfl ?_
      refine V_y (Y_pick_te rfl hc7 rfl) rfl rfl rfl ?_
      exact V_end fun a ha => ⟨(), ha.sub ⟨rfl, (by rw [hc7]; rfl), trivial⟩, rfl⟩
    · refine V_ge rfl rfl rfl hc7 ?_
      refine V_y (Y_move rfl) rfl rfl rfl ?_
      refine V_ge rfl rfl rfl hc7 ?_
      refine V_y (Y_geq rfl rfl) rfl rfl rfl ?_
      refine V_ge rfl rfl rfl hc7 ?_
      refine V_y (Y_move rfl) rfl rfl rfl ?_
      refine V_cut 3 (fun _ : Unit => [(0, .int .u8 b), (17, .bool (((decide ((97 : Int) ≤ b)) && (decide (b ≤ 122))) || ((decide ((65 : Int) ≤ b)) && (decide (b ≤ 90))))), (23, .bool ((decide ((48 : Int) ≤ b)) && (decide (b ≤ 57))))]) (fun _ w' => w = w') ?_ ?_
      · simp only [List.take, List.drop]
        rcases Bool.eq_false_or_eq_true (decide ((48 : Int) ≤ b)) with hc9 | hc9
        · refine V_ge rfl rfl rfl hc9 ?_
          refine V_y (Y_move rfl) rfl rfl rfl ?_
          refine V_ge rfl rfl rfl hc9 ?_
          refine V_y (Y_leq rfl rfl) rfl rfl rfl ?_
          refine V_ge rfl rfl rfl hc7 ?_
          refine V_y (Y_pick_te rfl hc9 rfl) rfl rfl rfl ?_
          exact V_end fun a ha => ⟨(), ha.sub ⟨rfl, rfl, (by rw [hc9]; rfl), trivial⟩, rfl⟩
        · refine V_gn rfl rfl rfl hc9 rfl rfl rfl ?_
          refine V_gn rfl rfl rfl hc9 rfl rfl rfl ?_
          refine V_ge rfl rfl rfl hc7 ?_
          refine V_y (Y_pick_fe rfl hc9 rfl) rfl rfl rfl ?_
          exact V_end fun a ha => ⟨(), ha.sub ⟨rfl, rfl, (by rw [hc9]; rfl), trivial⟩, rfl⟩
      simp only [List.take, List.drop]
      rintro _ _ rfl
      refine V_y (Y_pick_fe rfl hc7 rfl) rfl rfl rfl ?_
      exact V_end fun a ha => ⟨(), ha.sub ⟨rfl, (by rw [hc7]; rfl), trivial⟩, rfl⟩
  simp only [List.take, List.drop]
  rintro _ _ rfl
  refine V_y (Y_move rfl) rfl rfl rfl ?_
  refine V_cut 3 (fun _ : Unit => [(28, .bool (((((decide ((97 : Int) ≤ b)) && (decide (b ≤ 122))) || ((decide ((65 : Int) ≤ b)) && (decide (b ≤ 90)))) || ((decide ((48 : Int) ≤ b)) && (decide (b ≤ 57)))) || (decide ((128 : Int) ≤ b))))]) (fun _ w' => w = w') ?_ ?_
  · simp only [List.take, List.drop]
    rcases Bool.eq_false_or_eq_true (((((decide ((97 : Int) ≤ b)) && (decide (b ≤ 122))) || ((decide ((65 : Int) ≤ b)) && (decide (b ≤ 90)))) || ((decide ((48 : Int) ≤ b)) && (decide (b ≤ 57))))) with hc11 | hc11
    · refine V_gn rfl rfl rfl hc11 rfl rfl rfl ?_
      refine V_gn rfl rfl rfl hc11 rfl rfl rfl ?_
      refine V_y (Y_pick_te rfl hc11 rfl) rfl rfl rfl ?_
      exact V_end fun a ha => ⟨(), ha.sub ⟨(by rw [hc11]; rfl), trivial⟩, rfl⟩
    · refine V_ge rfl rfl rfl hc11 ?_
      refine V_y (Y_move rfl) rfl rfl rfl ?_
      refine V_ge rfl rfl rfl hc11 ?_
      refine V_y (Y_geq rfl rfl) rfl rfl rfl ?_
      refine V_y (Y_pick_fe rfl hc11 rfl) rfl rfl rfl ?_
      exact V_end fun a ha => ⟨(), ha.sub ⟨(by rw [hc11]; rfl), trivial⟩, rfl⟩
  simp only [List.take, List.drop]
  rintro _ _ rfl
  refine V_y (Y_assign rfl) rfl rfl rfl ?_
  refine V_to (fun _ _ => rfl) ?_
  obtain rfl := hm
  refine C_ret ?_
  try simp only [↓inBlock_ret, ↓then_ret]
  exact retQ rfl (Res.one Tryz.results15 rfl) ⟨rfl, rfl⟩

set_option maxRecDepth 4000 in
set_option maxHeartbeats 4000000 in
theorem portref2_lower_c (w : World) {A : Nat → Prop} (hA : ∀ b, w.heap.size ≤ b → A b) (s : ByteArray) {r : ByteArray} (hm : portref2_lower s = some r) : Ret Tryz.prog 16 #[.string s] w fun v w' => v = .string r ∧ Kp Dw w w' := by
  unfold portref2_lower at hm
  refine enter Tryz.func16 rfl Tryz.ntmps16 rfl ?_
  have hA0 := hA
  have hB := Nat.le_refl w.heap.size
  have hK : Tr Dw w.heap.size A w A w := Tr.refl (Dw := Dw) hA
  have hH : Hp w.heap.size A w [] := Hp.nil
  refine C_seq ?_
  refine C_region ?_
  refine V_y (Y_assign rfl) rfl rfl rfl ?_
  refine V_to (fun _ _ => rfl) ?_
  refine C_seq ?_
  refine C_region ?_
  refine V_y (Y_move rfl) rfl rfl rfl ?_
  obtain ⟨x1, hx1, hm⟩ := Option.bind_eq_some_iff.1 hm
  refine V_convU (Dw := Dw) (e := 5) hH hx1 Tryz.underlying9 Tryz.underlying42 Tryz.underlying5 hB hA rfl rfl ?_
  intro v2 w3 A4 hH5 ht6
  replace hK := Tr.trans (Dw := Dw) hK ht6
  replace hB := Nat.le_trans hB ht6.ex.size
  replace hA := ht6.new
  replace hH : Hp w.heap.size A4 w3 (obU 5 v2 x1 :: []) := hH5
  refine V_y (Y_assign rfl) rfl rfl rfl ?_
  refine V_to (fun _ _ => rfl) ?_
  refine C_seq ?_
  refine C_seq ?_
  refine C_region ?_
  refine V_y (Y_move rfl) rfl rfl rfl ?_
  refine V_y (Y_lenSl (Hp.anyU (e := 5) (v := v2) (l := x1) hH (i := 0) rfl) rfl Tryz.underlying42 rfl) rfl rfl rfl ?_
  refine V_y (Y_move rfl) rfl rfl rfl ?_
  refine V_to (fun _ _ => rfl) ?_
  have hn31 := Hp.leU (e := 5) (v := v2) (l := x1) hH (i := 0) rfl
  obtain ⟨o7, ho7, hm⟩ := Option.bind_eq_some_iff.1 hm
  refine C_cutG (ι := ((List UInt8) × Value × (Nat → Prop))) (fun ⟨s8, v14, A16⟩ => [(3, v14)]) (fun ⟨s8, v14, A16⟩ => fun w' => o7 = .fin s8 ∧ Hp w.heap.size A16 w' (obU 5 v14 s8 :: []) ∧ Tr Dw w.heap.size A4 w3 A16 w') ?_ ?_
  · refine C_block ?_
    refine C_range ho7 (fun k10 s18 a w' => ∃ i : (Value × (Nat → Prop)), Has ⟨29, [], none⟩ a ([(3, i.1), (8, i.1), (9, .int .i64 (x1.length : Int)), (10, .int .i64 (k10 : Int))]) ∧ Hp w.heap.size i.2 w' (obU 5 i.1 s18 :: []) ∧ Tr Dw w.heap.size A4 w3 i.2 w') (fun a ha => ⟨(v2, A4), ha.sub ⟨rfl, rfl, rfl, rfl, trivial⟩, ⟨hH, Tr.refl (Dw := Dw) hA⟩⟩) ?_
    rintro K k10 s18 a w19 ⟨⟨v20, A22⟩, ha74, hH23, hr9⟩ hle27 K30 h29
    refine C_of ?_ ha74
    replace hK := Tr.trans (Dw := Dw) hK hr9
    replace hB := Nat.le_trans hB hr9.ex.size
    replace hA := hr9.new
    replace hH : Hp w.heap.size A22 w19 (obU 5 v20 s18 :: []) := hH23
    refine C_seq (C_region (V_y (Y_lss rfl rfl) rfl rfl rfl (V_to (fun _ _ => rfl) ?_)))
    refine C_seq ?_
    refine C_cond rfl (fun hc32 => ?_) (fun hc32 => ?_)
    · have hlt28 := lt_of_dec hc32
      obtain ⟨x24, h25, h26⟩ := K30 hlt28
      refine C_skip_to (fun _ _ => rfl) ?_
      refine C_seq ?_
      obtain ⟨s34, ho33, h25⟩ := Option.bind_eq_some_iff.1 h25
      refine C_cutG (ι := (Value × (Nat → Prop))) (fun ⟨v36, A41⟩ => [(3, v36), (8, v36), (9, .int .i64 (x1.length : Int)), (10, .int .i64 (k10 : Int))]) (fun ⟨v36, A41⟩ => fun w' => Hp w.heap.size A41 w' (obU 5 v36 s34 :: []) ∧ Tr Dw w.heap.size A22 w19 A41 w') ?_ ?_
      · have hr35 : Tr Dw w.heap.size A22 w19 A22 w19 := Tr.refl (Dw := Dw) hA
        refine C_block ?_
        refine C_seq ?_
        refine C_region ?_
        refine V_y (Y_move rfl) rfl rfl rfl ?_
        obtain ⟨x43, hx43, ho33⟩ := Option.bind_eq_some_iff.1 ho33
        refine V_indexAddrU (e := 5) (v := v20) (l := s18) hH (i := 0) rfl hx43 Tryz.underlying42 Tryz.sizeOf5 rfl rfl rfl ?_
        intro b44 o45 h46 hl47
        refine V_y (Y_load (El.u8 h46) Tryz.isAgg5 rfl) rfl rfl rfl ?_
        refine V_y (Y_assign rfl) rfl rfl rfl ?_
        refine V_y (Y_assign rfl) rfl rfl rfl ?_
        refine V_to (fun _ _ => rfl) ?_
        refine C_seq ?_
        refine C_region ?_
        refine V_y (Y_move rfl) rfl rfl rfl ?_
        refine V_y (Y_geq rfl rfl) rfl rfl rfl ?_
        refine V_y (Y_move rfl) rfl rfl rfl ?_
        refine V_cut 3 (fun _ : Unit => [(3, v20), (4, .int .i64 (k10 : Int)), (5, .int .u8 (x43.toNat : Int)), (8, v20), (9, .int .i64 (x1.length : Int)), (10, .int .i64 (k10 : Int)), (20, .bool ((decide ((65 : Int) ≤ (x43.toNat : Int))) && (decide ((x43.toNat : Int) ≤ 90))))]) (fun _ w' => w19 = w') ?_ ?_
        · simp only [List.take, List.drop]
          rcases Bool.eq_false_or_eq_true (decide ((65 : Int) ≤ (x43.toNat : Int))) with hc48 | hc48
          · refine V_ge rfl rfl rfl hc48 ?_
            refine V_y (Y_move rfl) rfl rfl rfl ?_
            refine V_ge rfl rfl rfl hc48 ?_
            refine V_y (Y_leq rfl rfl) rfl rfl rfl ?_
            refine V_y (Y_pick_te rfl hc48 rfl) rfl rfl rfl ?_
            exact V_end fun a ha => ⟨(), ha.sub ⟨rfl, rfl, rfl, rfl, rfl, rfl, (by rw [hc48]; rfl), trivial⟩, rfl⟩
          · refine V_gn rfl rfl rfl hc48 rfl rfl rfl ?_
            refine V_gn rfl rfl rfl hc48 rfl rfl rfl ?_
            refine V_y (Y_pick_fe rfl hc48 rfl) rfl rfl rfl ?_
            exact V_end fun a ha => ⟨(), ha.sub ⟨rfl, rfl, rfl, rfl, rfl, rfl, (by rw [hc48]; rfl), trivial⟩, rfl⟩
        simp only [List.take, List.drop]
        rintro _ _ rfl
        refine V_to (fun _ _ => rfl) ?_
        obtain ⟨s51, ho50, ho33⟩ := Option.bind_eq_some_iff.1 ho33
        refine C_cutG (ι := (Value × (Nat → Prop))) (fun ⟨v53, A58⟩ => [(3, v53), (8, v53), (9, .int .i64 (x1.length : Int)), (10, .int .i64 (k10 : Int))]) (fun ⟨v53, A58⟩ => fun w' => Hp w.heap.size A58 w' (obU 5 v53 s51 :: []) ∧ Tr Dw w.heap.size A22 w19 A58 w') ?_ ?_
        · have hr52 : Tr Dw w.heap.size A22 w19 A22 w19 := Tr.refl (Dw := Dw) hA
          refine C_cond rfl (fun hc60 => ?_) (fun hc60 => ?_)
          · rw [if_pos hc60] at ho50
            refine C_region ?_
            refine V_y (Y_move rfl) rfl rfl rfl ?_
            refine V_y (Y_move rfl) rfl rfl rfl ?_
            refine V_y (Y_move rfl) rfl rfl rfl ?_
            refine V_y (Y_addB rfl rfl) rfl rfl rfl ?_
            refine V_indexAddrU (e := 5) (v := v20) (l := s18) hH (i := 0) rfl hx43 Tryz.underlying42 Tryz.sizeOf5 rfl rfl rfl ?_
            intro b61 o62 h63 hl64
            obtain ⟨x65, hx65, ho50⟩ := Option.bind_eq_some_iff.1 ho50
            refine V_storeU (Dw := Dw) (e := 5) (v := v20) (l := s18) hH (i := 0) rfl hl64 hx65 rfl Tryz.sizeOf5 rfl hB hA rfl rfl ?_
            intro w66 hH67 ht68
            replace hK := Tr.trans (Dw := Dw) hK ht68
            replace hr9 := Tr.trans (Dw := Dw) hr9 ht68
            replace hr35 := Tr.trans (Dw := Dw) hr35 ht68
            replace hr52 := Tr.trans (Dw := Dw) hr52 ht68
            replace hB := Nat.le_trans hB ht68.ex.size
            replace hA := ht68.new
            replace hH : Hp w.heap.size A22 w66 (obU 5 v20 x65 :: []) := hH67
            obtain rfl := Option.some.inj ho50
            refine V_end (fun a ha69 => ?_)
            exact ⟨(v20, A22), ha69.sub ⟨rfl, rfl, rfl, rfl, trivial⟩, ⟨hH, hr52⟩⟩
          · rw [if_neg (nt hc60)] at ho50
            obtain rfl := Option.some.inj ho50
            refine C_skip (fun a ha70 => ?_)
            exact ⟨(v20, A22), ha70.sub ⟨rfl, rfl, rfl, rfl, trivial⟩, ⟨hH, hr52⟩⟩
        rintro ⟨v53, A58⟩ w55 ⟨hH59, hk56⟩ a ha57
        replace hK := Tr.trans (Dw := Dw) hK hk56
        replace hr9 := Tr.trans (Dw := Dw) hr9 hk56
        replace hr35 := Tr.trans (Dw := Dw) hr35 hk56
        replace hB := Nat.le_trans hB hk56.ex.size
        replace hA := hk56.new
        replace hH : Hp w.heap.size A58 w55 (obU 5 v53 s51 :: []) := hH59
        obtain rfl := Option.some.inj ho33
        exact ⟨(v53, A58), ha57.sub ⟨rfl, rfl, rfl, rfl, trivial⟩, ⟨hH, hr35⟩⟩
      rintro ⟨v36, A41⟩ w38 ⟨hH42, hk39⟩ a ha40
      replace hK := Tr.trans (Dw := Dw) hK hk39
      replace hr9 := Tr.trans (Dw := Dw) hr9 hk39
      replace hB := Nat.le_trans hB hk39.ex.size
      replace hA := hk39.new
      replace hH : Hp w.heap.size A41 w38 (obU 5 v36 s34 :: []) := hH42
      refine C_at (n := ⟨29, [], none⟩) (fun _ _ => rfl) ?_ ha40
      refine C_region ?_
      refine V_y (Y_addI rfl rfl) rfl rfl rfl ?_
      refine V_y (Y_move rfl) rfl rfl rfl ?_
      obtain rfl := Option.some.inj h25
      refine V_end (fun a ha72 => ?_)
      exact ⟨s34, hlt28, h26, ⟨(v36, A41), ha72.sub ⟨rfl, rfl, rfl, (congrArg (fun z => some (Value.int .i64 z)) (w64_succ hlt28 hn31)), trivial⟩, ⟨hH, hr9⟩⟩⟩
    · refine C_exit (fun a ha73 => ?_)
      exact ⟨(s18, v20, A22), ha73.sub ⟨rfl, trivial⟩, ⟨(h29 (eq_of_dec hle27 hc32)).symm, hH, hr9⟩⟩
  rintro ⟨s8, v14, A16⟩ w11 ⟨rfl, hH17, hk12⟩ a ha13
  rw [Lp.andThen_fin] at hm
  replace hK := Tr.trans (Dw := Dw) hK hk12
  replace hB := Nat.le_trans hB hk12.ex.size
  replace hA := hk12.new
  replace hH : Hp w.heap.size A16 w11 (obU 5 v14 s8 :: []) := hH17
  refine C_at (n := ⟨29, [], none⟩) (fun _ _ => rfl) ?_ ha13
  refine C_seq ?_
  refine C_region ?_
  refine V_y (Y_move rfl) rfl rfl rfl ?_
  obtain ⟨A75, ht76, h77, hH78⟩ := Hp.freezeU (Dw := Dw) (v := v14) (l := s8) hH (i := 0) rfl hA
  replace hK := Tr.trans (Dw := Dw) hK ht76
  replace hB := Nat.le_trans hB ht76.ex.size
  replace hA := ht76.new
  replace hH : Hp w.heap.size A75 w11 ([]) := hH78
  refine V_y (Y_convBS (l := s8) h77 Tryz.underlying42 Tryz.underlying5 Tryz.underlying9 rfl) rfl rfl rfl ?_
  refine V_y (Y_assign rfl) rfl rfl rfl ?_
  refine V_to (fun _ _ => rfl) ?_
  obtain rfl := Option.some.inj hm
  refine C_ret ?_
  try simp only [↓inBlock_ret, ↓then_ret]
  exact retQ rfl (Res.one Tryz.results16 rfl) ⟨rfl, hK.kp⟩

set_option maxRecDepth 4000 in
set_option maxHeartbeats 4000000 in
theorem portref2_WordsOf_c (w : World) {A : Nat → Prop} (hA : ∀ b, w.heap.size ≤ b → A b) (s : ByteArray) {r : (List ByteArray)} (hm : portref2_WordsOf s = some r) : Ret Tryz.prog 4 #[.string s] w fun v w' => ∃ s0, v = s0 ∧ Ownd 9 w w' s0 r ∧ Kp Dw w w' := by
  unfold portref2_WordsOf at hm
  refine enter Tryz.func4 rfl Tryz.ntmps4 rfl ?_
  have hA0 := hA
  have hB := Nat.le_refl w.heap.size
  have hK : Tr Dw w.heap.size A w A w := Tr.refl (Dw := Dw) hA
  have hH : Hp w.heap.size A w [] := Hp.nil
  refine C_seq ?_
  refine C_region ?_
  refine V_y (Y_assign rfl) rfl rfl rfl ?_
  refine V_to (fun _ _ => rfl) ?_
  refine C_seq ?_
  refine C_region ?_
  refine V_y (Y_assign rfl) rfl rfl rfl ?_
  refine V_to (fun _ _ => rfl) ?_
  refine C_seq ?_
  refine C_seq ?_
  refine C_region ?_
  refine V_y (Y_assign rfl) rfl rfl rfl ?_
  refine V_to (fun _ _ => rfl) ?_
  replace hH : Hp w.heap.size A w (obS (α := ByteArray) 9 (.slice none 0 0) ([] : (List ByteArray)) :: []) := Hp.addNil (α := ByteArray) (e := 9) hH
  obtain ⟨o1, ho1, hm⟩ := Option.bind_eq_some_iff.1 hm
  refine C_cutG (ι := (((List ByteArray) × Int) × Value × (Nat → Prop))) (fun ⟨s2, v8, A10⟩ => [(3, v8)]) (fun ⟨s2, v8, A10⟩ => fun w' => o1 = .fin s2 ∧ Hp w.heap.size A10 w' (obS (α := ByteArray) 9 v8 s2.1 :: []) ∧ Tr Dw w.heap.size A w A10 w') ?_ ?_
  · refine C_block ?_
    refine C_while ho1 (fun s12 a w' => ∃ i : (Value × (Nat → Prop)), Has ⟨45, [], none⟩ a ([(0, .string s), (3, i.1), (4, .int .i64 s12.2)]) ∧ Hp w.heap.size i.2 w' (obS (α := ByteArray) 9 i.1 s12.1 :: []) ∧ Tr Dw w.heap.size A w i.2 w') (fun a ha => ⟨(.slice none 0 0, A), ha.sub ⟨rfl, rfl, rfl, trivial⟩, ⟨hH, Tr.refl (Dw := Dw) hA⟩⟩) ?_
    rintro K s12 a w13 ⟨⟨v14, A16⟩, ha83, hH17, hr3⟩ K24
    refine C_of ?_ ha83
    replace hK := Tr.trans (Dw := Dw) hK hr3
    replace hB := Nat.le_trans hB hr3.ex.size
    replace hA := hr3.new
    replace hH : Hp w.heap.size A16 w13 (obS (α := ByteArray) 9 v14 s12.1 :: []) := hH17
    obtain ⟨x18, h19, h20⟩ := K24
    refine C_seq ?_
    refine C_seq ?_
    refine C_region ?_
    refine V_y (Y_move rfl) rfl rfl rfl ?_
    refine V_y (Y_move rfl) rfl rfl rfl ?_
    refine V_y (Y_lenStr rfl Tryz.underlying9 rfl) rfl rfl rfl ?_
    refine V_y (Y_lss rfl rfl) rfl rfl rfl ?_
    refine V_to (fun _ _ => rfl) ?_
    refine C_cond rfl (fun hc25 => ?_) (fun hc25 => ?_)
    · rw [if_pos hc25] at h19
      refine C_skip_to (fun _ _ => rfl) ?_
      refine C_block ?_
      refine C_seq ?_
      refine C_region ?_
      refine V_y (Y_move rfl) rfl rfl rfl ?_
      refine V_y (Y_assign rfl) rfl rfl rfl ?_
      refine V_to (fun _ _ => rfl) ?_
      refine C_seq ?_
      obtain ⟨o26, ho26, h19⟩ := Option.bind_eq_some_iff.1 h19
      refine C_cutG (ι := Int) (fun (s27 : Int) => [(0, .string s), (3, v14), (4, .int .i64 s12.2), (5, .int .i64 s27)]) (fun (s27 : Int) => fun w' => o26 = .fin s27 ∧ w13 = w') ?_ ?_
      · refine C_block ?_
        refine C_while ho26 (fun s33 a w' => ∃ i : Unit, Has ⟨45, [], none⟩ a ([(0, .string s), (3, v14), (4, .int .i64 s12.2), (5, .int .i64 s33)]) ∧ w13 = w') (fun a ha => ⟨(), ha.sub ⟨rfl, rfl, rfl, rfl, trivial⟩, rfl⟩) ?_
        rintro K s33 a _ ⟨_, ha48, rfl⟩ K41
        refine C_of ?_ ha48
        obtain ⟨x35, h36, h37⟩ := K41
        refine C_seq ?_
        refine C_seq ?_
        refine C_region ?_
        refine V_y (Y_move rfl) rfl rfl rfl ?_
        refine V_y (Y_move rfl) rfl rfl rfl ?_
        refine V_y (Y_lenStr rfl Tryz.underlying9 rfl) rfl rfl rfl ?_
        refine V_y (Y_lss rfl rfl) rfl rfl rfl ?_
        refine V_y (Y_move rfl) rfl rfl rfl ?_
        obtain ⟨s43, hs43, h36⟩ := Option.bind_eq_some_iff.1 h36
        refine V_cut 5 (fun _ : Unit => [(0, .string s), (3, v14), (4, .int .i64 s12.2), (5, .int .i64 s33), (20, .bool s43)]) (fun _ w' => w13 = w') ?_ ?_
        · simp only [List.take, List.drop]
          rcases Bool.eq_false_or_eq_true (decide (s33 < (s.size : Int))) with hc42 | hc42
          · rw [if_pos hc42] at hs43
            refine V_ge rfl rfl rfl hc42 ?_
            refine V_y (Y_move rfl) rfl rfl rfl ?_
            refine V_ge rfl rfl rfl hc42 ?_
            refine V_y (Y_move rfl) rfl rfl rfl ?_
            refine V_ge rfl rfl rfl hc42 ?_
            obtain ⟨x44, hx44, hs43⟩ := Option.bind_eq_some_iff.1 hs43
            refine V_y (Y_indexS hx44 Tryz.underlying9 rfl rfl) rfl rfl rfl ?_
            refine V_ge rfl rfl rfl hc42 ?_
            refine V_call Tryz.call15 rfl rfl rfl rfl (portref2_isWordByte_c w13 (x44.toNat : Int)) ?_
            rintro _ _ ⟨rfl, rfl⟩
            refine V_y (Y_pick_te rfl hc42 rfl) rfl rfl rfl ?_
            obtain rfl := Option.some.inj hs43
            exact V_end fun a ha => ⟨(), ha.sub ⟨rfl, rfl, rfl, rfl, rfl, trivial⟩, rfl⟩
          · rw [if_neg (nt hc42)] at hs43
            refine V_gn rfl rfl rfl hc42 rfl rfl rfl ?_
            refine V_gn rfl rfl rfl hc42 rfl rfl rfl ?_
            refine V_gn rfl rfl rfl hc42 rfl rfl rfl ?_
            refine V_gn rfl rfl rfl hc42 rfl rfl rfl ?_
            refine V_y (Y_pick_fe rfl hc42 rfl) rfl rfl rfl ?_
            obtain rfl := Option.some.inj hs43
            exact V_end fun a ha => ⟨(), ha.sub ⟨rfl, rfl, rfl, rfl, rfl, trivial⟩, rfl⟩
        simp only [List.take, List.drop]
        rintro _ _ rfl
        refine V_to (fun _ _ => rfl) ?_
        refine C_cond rfl (fun hc45 => ?_) (fun hc45 => ?_)
        · rw [if_pos hc45] at h36
          refine C_skip_to (fun _ _ => rfl) ?_
          refine C_block ?_
          refine C_region ?_
          refine V_y (Y_move rfl) rfl rfl rfl ?_
          refine V_y (Y_addI rfl rfl) rfl rfl rfl ?_
          refine V_y (Y_assign rfl) rfl rfl rfl ?_
          obtain rfl := Option.some.inj h36
          refine V_end (fun a ha46 => ?_)
          exact ⟨w64 (s33 + 1), h37, ⟨(), ha46.sub ⟨rfl, rfl, rfl, rfl, trivial⟩, rfl⟩⟩
        · rw [if_neg (nt hc45)] at h36
          obtain rfl := Option.some.inj h36
          refine C_exit (fun a ha47 => ?_)
          exact ⟨s33, ha47.sub ⟨rfl, rfl, rfl, rfl, trivial⟩, ⟨h37.symm, rfl⟩⟩
      rintro s27 _ ⟨rfl, rfl⟩ a ha32
      rw [Lp.andThen_fin] at h19
      refine C_at (n := ⟨45, [], none⟩) (fun _ _ => rfl) ?_ ha32
      refine C_seq ?_
      refine C_seq ?_
      refine C_region ?_
      refine V_y (Y_move rfl) rfl rfl rfl ?_
      refine V_y (Y_move rfl) rfl rfl rfl ?_
      refine V_y (Y_gtr rfl rfl) rfl rfl rfl ?_
      refine V_y (Y_move rfl) rfl rfl rfl ?_
      refine V_cut 5 (fun _ : Unit => [(0, .string s), (3, v14), (4, .int .i64 s12.2), (5, .int .i64 s27), (31, .bool ((decide (s12.2 < s27)) && (decide ((w64 (s27 - s12.2)) ≤ 30))))]) (fun _ w' => w13 = w') ?_ ?_
      · simp only [List.take, List.drop]
        rcases Bool.eq_false_or_eq_true (decide (s12.2 < s27)) with hc49 | hc49
        · refine V_ge rfl rfl rfl hc49 ?_
          refine V_y (Y_move rfl) rfl rfl rfl ?_
          refine V_ge rfl rfl rfl hc49 ?_
          refine V_y (Y_move rfl) rfl rfl rfl ?_
          refine V_ge rfl rfl rfl hc49 ?_
          refine V_y (Y_subI rfl rfl) rfl rfl rfl ?_
          refine V_ge rfl rfl rfl hc49 ?_
          refine V_y (Y_leq rfl rfl) rfl rfl rfl ?_
          refine V_y (Y_pick_te rfl hc49 rfl) rfl rfl rfl ?_
          exact V_end fun a ha => ⟨(), ha.sub ⟨rfl, rfl, rfl, rfl, (by rw [hc49]; rfl), trivial⟩, rfl⟩
        · refine V_gn rfl rfl rfl hc49 rfl rfl rfl ?_
          refine V_gn rfl rfl rfl hc49 rfl rfl rfl ?_
          refine V_gn rfl rfl rfl hc49 rfl rfl rfl ?_
          refine V_gn rfl rfl rfl hc49 rfl rfl rfl ?_
          refine V_y (Y_pick_fe rfl hc49 rfl) rfl rfl rfl ?_
          exact V_end fun a ha => ⟨(), ha.sub ⟨rfl, rfl, rfl, rfl, (by rw [hc49]; rfl), trivial⟩, rfl⟩
      simp only [List.take, List.drop]
      rintro _ _ rfl
      refine V_to (fun _ _ => rfl) ?_
      obtain ⟨s52, ho51, h19⟩ := Option.bind_eq_some_iff.1 h19
      refine C_cutG (ι := (Value × (Nat → Prop))) (fun ⟨v54, A59⟩ => [(0, .string s), (3, v54), (4, .int .i64 s12.2), (5, .int .i64 s27)]) (fun ⟨v54, A59⟩ => fun w' => Hp w.heap.size A59 w' (obS (α := ByteArray) 9 v54 s52 :: []) ∧ Tr Dw w.heap.size A16 w13 A59 w') ?_ ?_
      · have hr53 : Tr Dw w.heap.size A16 w13 A16 w13 := Tr.refl (Dw := Dw) hA
        refine C_cond rfl (fun hc61 => ?_) (fun hc61 => ?_)
        · rw [if_pos hc61] at ho51
          refine C_region ?_
          refine V_y (Y_move rfl) rfl rfl rfl ?_
          refine V_y (Y_move rfl) rfl rfl rfl ?_
          refine V_y (Y_move rfl) rfl rfl rfl ?_
          refine V_y (Y_move rfl) rfl rfl rfl ?_
          obtain ⟨x62, hx62, ho51⟩ := Option.bind_eq_some_iff.1 ho51
          refine V_y (Y_sliceSLH hx62 Tryz.underlying9 rfl rfl rfl) rfl rfl rfl ?_
          obtain ⟨x63, hx63, ho51⟩ := Option.bind_eq_some_iff.1 ho51
          refine V_call Tryz.call16 rfl rfl rfl rfl (portref2_lower_c (Dw := Dw) w13 hA x62 hx63) ?_
          rintro _ w65 ⟨rfl, hk66⟩
          have ht67 := Kp.tr (Dw := Dw) hk66 hA hB
          replace hH := Hp.kp (Dw := Dw) hH hk66
          replace hK := Tr.trans (Dw := Dw) hK ht67
          replace hr3 := Tr.trans (Dw := Dw) hr3 ht67
          replace hr53 := Tr.trans (Dw := Dw) hr53 ht67
          replace hB := Nat.le_trans hB ht67.ex.size
          replace hA := ht67.new
          refine V_buildSlice (Dw := Dw) (l := ([x63] : List ByteArray)) (len := 1) Tryz.underlying22 Tryz.sizeOf9 Tryz.zeroValue9 rfl (by with_unfolding_all rfl) (show (1 * 1 : Nat) ≠ 0 by decide) (show (1 * 1 : Nat) ≤ 2 ^ 24 by decide) hA ⟨[.string x63], _, rfl, rfl, rfl⟩ rfl rfl ?_
          intro v68 w69 hk71 h70
          have ht72 := Kp.tr (Dw := Dw) hk71 hA hB
          replace hH := Hp.kp (Dw := Dw) hH hk71
          replace hK := Tr.trans (Dw := Dw) hK ht72
          replace hr3 := Tr.trans (Dw := Dw) hr3 ht72
          replace hr53 := Tr.trans (Dw := Dw) hr53 ht72
          replace hB := Nat.le_trans hB ht72.ex.size
          replace hA := ht72.new
          obtain ⟨x73, hx73, ho51⟩ := Option.bind_eq_some_iff.1 ho51
          refine V_appendH (Dw := Dw) (e := 9) (v := v14) (l := s12.1) (ti := Tryz.t9) (bytes := 16) (lim := 8796093022208) hH (i := 0) rfl h70 hx73 Tryz.underlying22 Tryz_info9 rfl rfl rfl rfl (by decide) (by decide) (by decide) hB hA rfl rfl rfl ?_
          intro v74 w75 A76 hH77 ht78
          replace h70 := Sl.tr (Dw := Dw) h70 ht78
          replace hK := Tr.trans (Dw := Dw) hK ht78
          replace hr3 := Tr.trans (Dw := Dw) hr3 ht78
          replace hr53 := Tr.trans (Dw := Dw) hr53 ht78
          replace hB := Nat.le_trans hB ht78.ex.size
          replace hA := ht78.new
          replace hH : Hp w.heap.size A76 w75 (obS (α := ByteArray) 9 v74 x73 :: []) := hH77
          refine V_y (Y_assign rfl) rfl rfl rfl ?_
          obtain rfl := Option.some.inj ho51
          refine V_end (fun a ha79 => ?_)
          exact ⟨(v74, A76), ha79.sub ⟨rfl, rfl, rfl, rfl, trivial⟩, ⟨hH, hr53⟩⟩
        · rw [if_neg (nt hc61)] at ho51
          obtain rfl := Option.some.inj ho51
          refine C_skip (fun a ha80 => ?_)
          exact ⟨(v14, A16), ha80.sub ⟨rfl, rfl, rfl, rfl, trivial⟩, ⟨hH, hr53⟩⟩
      rintro ⟨v54, A59⟩ w56 ⟨hH60, hk57⟩ a ha58
      replace hK := Tr.trans (Dw := Dw) hK hk57
      replace hr3 := Tr.trans (Dw := Dw) hr3 hk57
      replace hB := Nat.le_trans hB hk57.ex.size
      replace hA := hk57.new
      replace hH : Hp w.heap.size A59 w56 (obS (α := ByteArray) 9 v54 s52 :: []) := hH60
      refine C_at (n := ⟨45, [], none⟩) (fun _ _ => rfl) ?_ ha58
      refine C_region ?_
      refine V_y (Y_move rfl) rfl rfl rfl ?_
      refine V_y (Y_move rfl) rfl rfl rfl ?_
      refine V_y (Y_addI rfl rfl) rfl rfl rfl ?_
      refine V_y (Y_max2 rfl rfl) rfl rfl rfl ?_
      refine V_y (Y_assign rfl) rfl rfl rfl ?_
      obtain rfl := Option.some.inj h19
      refine V_end (fun a ha81 => ?_)
      exact ⟨(s52, (if s27 < w64 (s12.2 + 1) then w64 (s12.2 + 1) else s27)), h20, ⟨(v54, A59), ha81.sub ⟨rfl, rfl, rfl, trivial⟩, ⟨hH, hr3⟩⟩⟩
    · rw [if_neg (nt hc25)] at h19
      obtain rfl := Option.some.inj h19
      refine C_exit (fun a ha82 => ?_)
      exact ⟨((s12.1, s12.2), v14, A16), ha82.sub ⟨rfl, trivial⟩, ⟨h20.symm, hH, hr3⟩⟩
  rintro ⟨s2, v8, A10⟩ w5 ⟨rfl, hH11, hk6⟩ a ha7
  rw [Lp.andThen_fin] at hm
  replace hK := Tr.trans (Dw := Dw) hK hk6
  replace hB := Nat.le_trans hB hk6.ex.size
  replace hA := hk6.new
  replace hH : Hp w.heap.size A10 w5 (obS (α := ByteArray) 9 v8 s2.1 :: []) := hH11
  refine C_at (n := ⟨45, [], none⟩) (fun _ _ => rfl) ?_ ha7
  refine C_seq ?_
  refine C_region ?_
  refine V_y (Y_move rfl) rfl rfl rfl ?_
  refine V_y (Y_assign rfl) rfl rfl rfl ?_
  refine V_to (fun _ _ => rfl) ?_
  obtain rfl := Option.some.inj hm
  refine C_ret ?_
  try simp only [↓inBlock_ret, ↓then_ret]
  exact retQ rfl (Res.one Tryz.results4 rfl) ⟨v8, rfl, (Hp.ownd hH (i := 0) rfl), hK.kp⟩

set_option maxRecDepth 4000 in
set_option maxHeartbeats 4000000 in
theorem slices_Clone_Lstring_string_c (w : World) {A : Nat → Prop} (hA : ∀ b, w.heap.size ≤ b → A b) (s : (List ByteArray)) (v_s : Value) (h_s : Sl A w v_s s) {r : (List ByteArray)} (hm : slices_Clone_Lstring_string s = some r) : Ret Tryz.prog 5 #[v_s] w fun v w' => ∃ s0, v = s0 ∧ Ownd 9 w w' s0 r ∧ Kp Dw w w' := by
  unfold slices_Clone_Lstring_string at hm
  refine enter Tryz.func5 rfl Tryz.ntmps5 rfl ?_
  have hA0 := hA
  have hB := Nat.le_refl w.heap.size
  have hK : Tr Dw w.heap.size A w A w := Tr.refl (Dw := Dw) hA
  have hH : Hp w.heap.size A w [] := Hp.nil
  rcases Sl.split h_s with ⟨rfl, rfl⟩ | ⟨a0, n0, c0, rfl⟩
  · replace hm : some ([] : (List ByteArray)) = some r := by simpa [appendL] using hm
    refine C_seq ?_
    refine C_region ?_
    refine V_y (Y_assign rfl) rfl rfl rfl ?_
    refine V_to (fun _ _ => rfl) ?_
    refine C_seq ?_
    refine C_seq ?_
    refine C_region ?_
    refine V_y (Y_move rfl) rfl rfl rfl ?_
    refine V_y (Y_eqlNilT rfl rfl Tryz.underlying22) rfl rfl rfl ?_
    refine V_to (fun _ _ => rfl) ?_
    refine C_cond rfl (fun hc => ?_) (fun hc => ?_)
    · refine C_seq ?_
      refine C_region ?_
      refine V_y (Y_assign rfl) rfl rfl rfl ?_
      refine V_to (fun _ _ => rfl) ?_
      obtain rfl := Option.some.inj hm
      replace hH : Hp w.heap.size A w (obS (α := ByteArray) 9 (.slice none 0 0) ([] : (List ByteArray)) :: []) := Hp.addNil (α := ByteArray) (e := 9) hH
      refine C_ret ?_
      try simp only [↓inBlock_ret, ↓then_ret]
      exact retQ rfl (Res.one Tryz.results5 rfl) ⟨.slice none 0 0, rfl, (Hp.ownd hH (i := 0) rfl), hK.kp⟩
    · exact absurd hc (by decide)
  · refine C_seq ?_
    refine C_region ?_
    refine V_y (Y_assign rfl) rfl rfl rfl ?_
    refine V_to (fun _ _ => rfl) ?_
    refine C_seq ?_
    refine C_seq ?_
    refine C_region ?_
    refine V_y (Y_move rfl) rfl rfl rfl ?_
    refine V_y (Y_eqlNilF rfl rfl Tryz.underlying22) rfl rfl rfl ?_
    refine V_to (fun _ _ => rfl) ?_
    refine C_cond rfl (fun hc => ?_) (fun hc => ?_)
    · exact absurd hc (by decide)
    · refine C_skip_to (fun _ _ => rfl) ?_
      refine C_seq ?_
      refine C_region ?_
      refine V_buildOwn0H (Dw := Dw) (α := ByteArray) hH Tryz.underlying22 Tryz.sizeOf9 hB hA rfl ?_
      intro v3 w4 A5 hH6 ht7
      replace h_s := Sl.tr (Dw := Dw) h_s ht7
      replace hK := Tr.trans (Dw := Dw) hK ht7
      replace hB := Nat.le_trans hB ht7.ex.size
      replace hA := ht7.new
      replace hH : Hp w.heap.size A5 w4 (obS (α := ByteArray) 9 v3 ([] : List ByteArray) :: []) := hH6
      refine V_y (Y_move rfl) rfl rfl rfl ?_
      obtain ⟨x8, hx8, hm⟩ := Option.bind_eq_some_iff.1 hm
      refine V_appendH (Dw := Dw) (e := 9) (v := v3) (l := ([] : List ByteArray)) (ti := Tryz.t9) (bytes := 16) (lim := 8796093022208) hH (i := 0) rfl h_s hx8 Tryz.underlying22 Tryz_info9 rfl rfl rfl rfl (by decide) (by decide) (by decide) hB hA rfl rfl rfl ?_
      intro v9 w10 A11 hH12 ht13
      replace h_s := Sl.tr (Dw := Dw) h_s ht13
      replace hK := Tr.trans (Dw := Dw) hK ht13
      replace hB := Nat.le_trans hB ht13.ex.size
      replace hA := ht13.new
      replace hH : Hp w.heap.size A11 w10 (obS (α := ByteArray) 9 v9 x8 :: []) := hH12
      refine V_y (Y_assign rfl) rfl rfl rfl ?_
      refine V_to (fun _ _ => rfl) ?_
      obtain rfl := Option.some.inj hm
      refine C_ret ?_
      try simp only [↓inBlock_ret, ↓then_ret]
      exact retQ rfl (Res.one Tryz.results5 rfl) ⟨v9, rfl, (Hp.ownd hH (i := 0) rfl), hK.kp⟩

set_option maxRecDepth 4000 in
set_option maxHeartbeats 4000000 in
theorem internal_stringslite_HasSuffix_c (w : World) (s : ByteArray) (suffix : ByteArray) {r : Bool} (hm : internal_stringslite_HasSuffix s suffix = some r) : Ret Tryz.prog 30 #[.string s, .string suffix] w fun v w' => v = .bool r ∧ w = w' := by
  unfold internal_stringslite_HasSuffix at hm
  refine enter Tryz.func30 rfl Tryz.ntmps30 rfl ?_
  refine C_seq ?_
  refine C_region ?_
  refine V_y (Y_assign rfl) rfl rfl rfl ?_
  refine V_to (fun _ _ => rfl) ?_
  refine C_seq ?_
  refine C_region ?_
  refine V_y (Y_move rfl) rfl rfl rfl ?_
  refine V_y (Y_lenStr rfl Tryz.underlying9 rfl) rfl rfl rfl ?_
  refine V_y (Y_move rfl) rfl rfl rfl ?_
  refine V_y (Y_lenStr rfl Tryz.underlying9 rfl) rfl rfl rfl ?_
  refine V_y (Y_geq rfl rfl) rfl rfl rfl ?_
  refine V_y (Y_move rfl) rfl rfl rfl ?_
  obtain ⟨s2, hs2, hm⟩ := Option.bind_eq_some_iff.1 hm
  refine V_cut 10 (fun _ : Unit => [(20, .bool s2)]) (fun _ w' => w = w') ?_ ?_
  · simp only [List.take, List.drop]
    rcases Bool.eq_false_or_eq_true (decide ((suffix.size : Int) ≤ (s.size : Int))) with hc1 | hc1
    · rw [if_pos hc1] at hs2
      refine V_ge rfl rfl rfl hc1 ?_
      refine V_y (Y_move rfl) rfl rfl rfl ?_
      refine V_ge rfl rfl rfl hc1 ?_
      refine V_y (Y_move rfl) rfl rfl rfl ?_
      refine V_ge rfl rfl rfl hc1 ?_
      refine V_y (Y_lenStr rfl Tryz.underlying9 rfl) rfl rfl rfl ?_
      refine V_ge rfl rfl rfl hc1 ?_
      refine V_y (Y_move rfl) rfl rfl rfl ?_
      refine V_ge rfl rfl rfl hc1 ?_
      refine V_y (Y_lenStr rfl Tryz.underlying9 rfl) rfl rfl rfl ?_
      refine V_ge rfl rfl rfl hc1 ?_
      refine V_y (Y_subI rfl rfl) rfl rfl rfl ?_
      refine V_ge rfl rfl rfl hc1 ?_
      obtain ⟨x3, hx3, hs2⟩ := Option.bind_eq_some_iff.1 hs2
      refine V_y (Y_sliceSL hx3 Tryz.underlying9 rfl rfl) rfl rfl rfl ?_
      refine V_ge rfl rfl rfl hc1 ?_
      refine V_y (Y_move rfl) rfl rfl rfl ?_
      refine V_ge rfl rfl rfl hc1 ?_
      refine V_y (Y_seql rfl rfl) rfl rfl rfl ?_
      refine V_y (Y_pick_te rfl hc1 rfl) rfl rfl rfl ?_
      obtain rfl := Option.some.inj hs2
      exact V_end fun a ha => ⟨(), ha.sub ⟨rfl, trivial⟩, rfl⟩
    · rw [if_neg (nt hc1)] at hs2
      refine V_gn rfl rfl rfl hc1 rfl rfl rfl ?_
      refine V_gn rfl rfl rfl hc1 rfl rfl rfl ?_
      refine V_gn rfl rfl rfl hc1 rfl rfl rfl ?_
      refine V_gn rfl rfl rfl hc1 rfl rfl rfl ?_
      refine V_gn rfl rfl rfl hc1 rfl rfl rfl ?_
      refine V_gn rfl rfl rfl hc1 rfl rfl rfl ?_
      refine V_gn rfl rfl rfl hc1 rfl rfl rfl ?_
      refine V_gn rfl rfl rfl hc1 rfl rfl rfl ?_
      refine V_gn rfl rfl rfl hc1 rfl rfl rfl ?_
      refine V_y (Y_pick_fe rfl hc1 rfl) rfl rfl rfl ?_
      obtain rfl := Option.some.inj hs2
      exact V_end fun a ha => ⟨(), ha.sub ⟨rfl, trivial⟩, rfl⟩
  simp only [List.take, List.drop]
  rintro _ _ rfl
  refine V_y (Y_assign rfl) rfl rfl rfl ?_
  refine V_to (fun _ _ => rfl) ?_
  obtain rfl := Option.some.inj hm
  refine C_ret ?_
  try simp only [↓inBlock_ret, ↓then_ret]
  exact retQ rfl (Res.one Tryz.results30 rfl) ⟨rfl, rfl⟩

set_option maxRecDepth 4000 in
set_option maxHeartbeats 4000000 in
theorem strings_HasSuffix_c (w : World) (s : ByteArray) (suffix : ByteArray) {r : Bool} (hm : strings_HasSuffix s suffix = some r) : Ret Tryz.prog 17 #[.string s, .string suffix] w fun v w' => v = .bool r ∧ w = w' := by
  unfold strings_HasSuffix at hm
  refine enter Tryz.func17 rfl Tryz.ntmps17 rfl ?_
  refine C_seq ?_
  refine C_region ?_
  refine V_y (Y_assign rfl) rfl rfl rfl ?_
  refine V_to (fun _ _ => rfl) ?_
  refine C_seq ?_
  refine C_region ?_
  refine V_y (Y_move rfl) rfl rfl rfl ?_
  refine V_y (Y_move rfl) rfl rfl rfl ?_
  obtain ⟨x1, hx1, hm⟩ := Option.bind_eq_some_iff.1 hm
  refine V_call Tryz.call30 rfl rfl rfl rfl (internal_stringslite_HasSuffix_c w s suffix hx1) ?_
  rintro _ _ ⟨rfl, rfl⟩
  refine V_y (Y_assign rfl) rfl rfl rfl ?_
  refine V_to (fun _ _ => rfl) ?_
  obtain rfl := Option.some.inj hm
  refine C_ret ?_
  try simp only [↓inBlock_ret, ↓then_ret]
  exact retQ rfl (Res.one Tryz.results17 rfl) ⟨rfl, rfl⟩

set_option maxRecDepth 4000 in
set_option maxHeartbeats 4000000 in
theorem know_Stem_c (w : World) (word : ByteArray) {r : ByteArray} (hm : know_Stem word = some r) : Ret Tryz.prog 6 #[.string word] w fun v w' => v = .string r ∧ w = w' := by
  unfold know_Stem at hm
  refine enter Tryz.func6 rfl Tryz.ntmps6 rfl ?_
  refine C_seq ?_
  refine C_region ?_
  refine V_y (Y_assign rfl) rfl rfl rfl ?_
  refine V_to (fun _ _ => rfl) ?_
  refine C_seq ?_
  refine C_seq ?_
  refine C_region ?_
  refine V_y (Y_move rfl) rfl rfl rfl ?_
  refine V_y (Y_lenStr rfl Tryz.underlying9 rfl) rfl rfl rfl ?_
  refine V_y (Y_move rfl) rfl rfl rfl ?_
  refine V_to (fun _ _ => rfl) ?_
  obtain ⟨o1, ho1, hm⟩ := Option.bind_eq_some_iff.1 hm
  refine C_cutG (ι := Int) (fun (s2 : Int) => [(0, .string word)]) (fun (s2 : Int) => fun w' => o1 = .fin s2 ∧ w = w') ?_ ?_
  · refine C_block ?_
    refine C_while ho1 (fun s8 a w' => ∃ i : Unit, Has ⟨77, [], none⟩ a ([(0, .string word), (6, .int .i64 (word.size : Int)), (7, .int .i64 s8)]) ∧ w = w') (fun a ha => ⟨(), ha.sub ⟨rfl, rfl, rfl, trivial⟩, rfl⟩) ?_
    rintro K s8 a _ ⟨_, ha24, rfl⟩ K16
    refine C_of ?_ ha24
    obtain ⟨x10, h11, h12⟩ := K16
    refine C_seq ?_
    refine C_region ?_
    refine V_y (Y_lss rfl rfl) rfl rfl rfl ?_
    refine V_to (fun _ _ => rfl) ?_
    refine C_seq ?_
    refine C_cond rfl (fun hc17 => ?_) (fun hc17 => ?_)
    · rw [if_pos hc17] at h11
      refine C_skip_to (fun _ _ => rfl) ?_
      refine C_seq ?_
      refine C_block ?_
      refine C_seq ?_
      refine C_region ?_
      refine V_y (Y_move rfl) rfl rfl rfl ?_
      refine V_y (Y_assign rfl) rfl rfl rfl ?_
      refine V_to (fun _ _ => rfl) ?_
      refine C_seq ?_
      refine C_region ?_
      refine V_y (Y_move rfl) rfl rfl rfl ?_
      refine V_y (Y_move rfl) rfl rfl rfl ?_
      obtain ⟨x18, hx18, h11⟩ := Option.bind_eq_some_iff.1 h11
      refine V_y (Y_indexS hx18 Tryz.underlying9 rfl rfl) rfl rfl rfl ?_
      refine V_y (Y_lss rfl rfl) rfl rfl rfl ?_
      refine V_y (Y_move rfl) rfl rfl rfl ?_
      obtain ⟨s20, hs20, h11⟩ := Option.bind_eq_some_iff.1 h11
      refine V_cut 5 (fun _ : Unit => [(0, .string word), (6, .int .i64 (word.size : Int)), (7, .int .i64 s8), (19, .bool s20)]) (fun _ w' => w = w') ?_ ?_
      · simp only [List.take, List.drop]
        rcases Bool.eq_false_or_eq_true (decide ((x18.toNat : Int) < 97)) with hc19 | hc19
        · rw [if_pos hc19] at hs20
          refine V_gn rfl rfl rfl hc19 rfl rfl rfl ?_
          refine V_gn rfl rfl rfl hc19 rfl rfl rfl ?_
          refine V_gn rfl rfl rfl hc19 rfl rfl rfl ?_
          refine V_gn rfl rfl rfl hc19 rfl rfl rfl ?_
          refine V_y (Y_pick_te rfl hc19 rfl) rfl rfl rfl ?_
          obtain rfl := Option.some.inj hs20
          exact V_end fun a ha => ⟨(), ha.sub ⟨rfl, rfl, rfl, rfl, trivial⟩, rfl⟩
        · rw [if_neg (nt hc19)] at hs20
          refine V_ge rfl rfl rfl hc19 ?_
          refine V_y (Y_move rfl) rfl rfl rfl ?_
          refine V_ge rfl rfl rfl hc19 ?_
          refine V_y (Y_move rfl) rfl rfl rfl ?_
          refine V_ge rfl rfl rfl hc19 ?_
          refine V_y (Y_indexS hx18 Tryz.underlying9 rfl rfl) rfl rfl rfl ?_
          refine V_ge rfl rfl rfl hc19 ?_
          refine V_y (Y_gtr rfl rfl) rfl rfl rfl ?_
          refine V_y (Y_pick_fe rfl hc19 rfl) rfl rfl rfl ?_
          obtain rfl := Option.some.inj hs20
          exact V_end fun a ha => ⟨(), ha.sub ⟨rfl, rfl, rfl, rfl, trivial⟩, rfl⟩
      simp only [List.take, List.drop]
      rintro _ _ rfl
      refine V_to (fun _ _ => rfl) ?_
      refine C_cond rfl (fun hc21 => ?_) (fun hc21 => ?_)
      · rw [if_pos hc21] at h11
        refine C_seq ?_
        refine C_region ?_
        refine V_y (Y_move rfl) rfl rfl rfl ?_
        refine V_y (Y_assign rfl) rfl rfl rfl ?_
        refine V_to (fun _ _ => rfl) ?_
        obtain rfl := Option.some.inj h11
        obtain rfl := (h12 : Lp.rt _ = _)
        rw [Lp.andThen_rt] at hm
        obtain rfl := Option.some.inj hm
        refine C_ret ?_
        try simp only [↓inBlock_ret, ↓then_ret]
        exact retQ rfl (Res.one Tryz.results6 rfl) ⟨rfl, rfl⟩
      · rw [if_neg (nt hc21)] at h11
        refine C_skip_to (fun _ _ => rfl) ?_
        refine C_region ?_
        refine V_y (Y_addI rfl rfl) rfl rfl rfl ?_
        refine V_y (Y_move rfl) rfl rfl rfl ?_
        obtain rfl := Option.some.inj h11
        refine V_end (fun a ha22 => ?_)
        exact ⟨w64 (s8 + 1), h12, ⟨(), ha22.sub ⟨rfl, rfl, rfl, trivial⟩, rfl⟩⟩
    · rw [if_neg (nt hc17)] at h11
      obtain rfl := Option.some.inj h11
      refine C_exit (fun a ha23 => ?_)
      exact ⟨s8, ha23.sub ⟨rfl, trivial⟩, ⟨h12.symm, rfl⟩⟩
  rintro s2 _ ⟨rfl, rfl⟩ a ha7
  rw [Lp.andThen_fin] at hm
  refine C_at (n := ⟨77, [], none⟩) (fun _ _ => rfl) ?_ ha7
  refine C_seq ?_
  refine C_region ?_
  refine V_y (Y_move rfl) rfl rfl rfl ?_
  refine V_y (Y_lenStr rfl Tryz.underlying9 rfl) rfl rfl rfl ?_
  refine V_y (Y_assign rfl) rfl rfl rfl ?_
  refine V_to (fun _ _ => rfl) ?_
  refine C_seq ?_
  refine C_block ?_
  refine C_seq ?_
  refine C_region ?_
  refine V_y (Y_move rfl) rfl rfl rfl ?_
  refine V_y (Y_lss rfl rfl) rfl rfl rfl ?_
  refine V_y (Y_assign rfl) rfl rfl rfl ?_
  refine V_to (fun _ _ => rfl) ?_
  refine C_cond rfl (fun hc25 => ?_) (fun hc25 => ?_)
  · rw [if_pos hc25] at hm
    refine C_seq ?_
    refine C_region ?_
    refine V_y (Y_move rfl) rfl rfl rfl ?_
    refine V_y (Y_assign rfl) rfl rfl rfl ?_
    refine V_to (fun _ _ => rfl) ?_
    obtain rfl := Option.some.inj hm
    refine C_ret ?_
    try simp only [↓inBlock_ret, ↓then_ret]
    exact retQ rfl (Res.one Tryz.results6 rfl) ⟨rfl, rfl⟩
  · rw [if_neg (nt hc25)] at hm
    refine C_seq ?_
    refine C_region ?_
    refine V_y (Y_move rfl) rfl rfl rfl ?_
    obtain ⟨x26, hx26, hm⟩ := Option.bind_eq_some_iff.1 hm
    refine V_call Tryz.call17 rfl rfl rfl rfl (strings_HasSuffix_c w word (⟨#[105, 101, 115]⟩ : ByteArray) hx26) ?_
    rintro _ _ ⟨rfl, rfl⟩
    refine V_y (Y_assign rfl) rfl rfl rfl ?_
    refine V_to (fun _ _ => rfl) ?_
    refine C_cond rfl (fun hc27 => ?_) (fun hc27 => ?_)
    · rw [if_pos hc27] at hm
      refine C_seq ?_
      refine C_region ?_
      refine V_y (Y_move rfl) rfl rfl rfl ?_
      refine V_y (Y_move rfl) rfl rfl rfl ?_
      refine V_y (Y_subI rfl rfl) rfl rfl rfl ?_
      obtain ⟨x28, hx28, hm⟩ := Option.bind_eq_some_iff.1 hm
      refine V_y (Y_sliceSH hx28 Tryz.underlying9 rfl rfl) rfl rfl rfl ?_
      obtain ⟨x29, hx29, hm⟩ := Option.bind_eq_some_iff.1 hm
      refine V_y (Y_sadd hx29 rfl rfl) rfl rfl rfl ?_
      refine V_y (Y_assign rfl) rfl rfl rfl ?_
      refine V_to (fun _ _ => rfl) ?_
      obtain rfl := Option.some.inj hm
      refine C_ret ?_
      try simp only [↓inBlock_ret, ↓then_ret]
      exact retQ rfl (Res.one Tryz.results6 rfl) ⟨rfl, rfl⟩
    · rw [if_neg (nt hc27)] at hm
      refine C_seq ?_
      refine C_region ?_
      refine V_y (Y_move rfl) rfl rfl rfl ?_
      obtain ⟨x30, hx30, hm⟩ := Option.bind_eq_some_iff.1 hm
      refine V_call Tryz.call17 rfl rfl rfl rfl (strings_HasSuffix_c w word (⟨#[115, 115, 101, 115]⟩ : ByteArray) hx30) ?_
      rintro _ _ ⟨rfl, rfl⟩
      refine V_y (Y_assign rfl) rfl rfl rfl ?_
      refine V_to (fun _ _ => rfl) ?_
      refine C_cond rfl (fun hc31 => ?_) (fun hc31 => ?_)
      · rw [if_pos hc31] at hm
        refine C_seq ?_
        refine C_region ?_
        refine V_y (Y_move rfl) rfl rfl rfl ?_
        refine V_y (Y_move rfl) rfl rfl rfl ?_
        refine V_y (Y_subI rfl rfl) rfl rfl rfl ?_
        obtain ⟨x32, hx32, hm⟩ := Option.bind_eq_some_iff.1 hm
        refine V_y (Y_sliceSH hx32 Tryz.underlying9 rfl rfl) rfl rfl rfl ?_
        refine V_y (Y_assign rfl) rfl rfl rfl ?_
        refine V_to (fun _ _ => rfl) ?_
        obtain rfl := Option.some.inj hm
        refine C_ret ?_
        try simp only [↓inBlock_ret, ↓then_ret]
        exact retQ rfl (Res.one Tryz.results6 rfl) ⟨rfl, rfl⟩
      · rw [if_neg (nt hc31)] at hm
        refine C_seq ?_
        refine C_region ?_
        refine V_y (Y_move rfl) rfl rfl rfl ?_
        obtain ⟨x33, hx33, hm⟩ := Option.bind_eq_some_iff.1 hm
        refine V_call Tryz.call17 rfl rfl rfl rfl (strings_HasSuffix_c w word (⟨#[115, 115]⟩ : ByteArray) hx33) ?_
        rintro _ _ ⟨rfl, rfl⟩
        refine V_y (Y_assign rfl) rfl rfl rfl ?_
        refine V_to (fun _ _ => rfl) ?_
        refine C_cond rfl (fun hc34 => ?_) (fun hc34 => ?_)
        · rw [if_pos hc34] at hm
          refine C_seq ?_
          refine C_region ?_
          refine V_y (Y_move rfl) rfl rfl rfl ?_
          refine V_y (Y_assign rfl) rfl rfl rfl ?_
          refine V_to (fun _ _ => rfl) ?_
          obtain rfl := Option.some.inj hm
          refine C_ret ?_
          try simp only [↓inBlock_ret, ↓then_ret]
          exact retQ rfl (Res.one Tryz.results6 rfl) ⟨rfl, rfl⟩
        · rw [if_neg (nt hc34)] at hm
          refine C_seq ?_
          refine C_region ?_
          refine V_y (Y_move rfl) rfl rfl rfl ?_
          obtain ⟨x35, hx35, hm⟩ := Option.bind_eq_some_iff.1 hm
          refine V_call Tryz.call17 rfl rfl rfl rfl (strings_HasSuffix_c w word (⟨#[115]⟩ : ByteArray) hx35) ?_
          rintro _ _ ⟨rfl, rfl⟩
          refine V_y (Y_assign rfl) rfl rfl rfl ?_
          refine V_to (fun _ _ => rfl) ?_
          refine C_cond rfl (fun hc36 => ?_) (fun hc36 => ?_)
          · rw [if_pos hc36] at hm
            refine C_seq ?_
            refine C_region ?_
            refine V_y (Y_move rfl) rfl rfl rfl ?_
            refine V_y (Y_move rfl) rfl rfl rfl ?_
            refine V_y (Y_subI rfl rfl) rfl rfl rfl ?_
            obtain ⟨x37, hx37, hm⟩ := Option.bind_eq_some_iff.1 hm
            refine V_y (Y_sliceSH hx37 Tryz.underlying9 rfl rfl) rfl rfl rfl ?_
            refine V_y (Y_assign rfl) rfl rfl rfl ?_
            refine V_to (fun _ _ => rfl) ?_
            obtain rfl := Option.some.inj hm
            refine C_ret ?_
            try simp only [↓inBlock_ret, ↓then_ret]
            exact retQ rfl (Res.one Tryz.results6 rfl) ⟨rfl, rfl⟩
          · rw [if_neg (nt hc36)] at hm
            refine C_seq ?_
            refine C_region ?_
            refine V_y (Y_move rfl) rfl rfl rfl ?_
            obtain ⟨x38, hx38, hm⟩ := Option.bind_eq_some_iff.1 hm
            refine V_call Tryz.call17 rfl rfl rfl rfl (strings_HasSuffix_c w word (⟨#[105, 110, 103]⟩ : ByteArray) hx38) ?_
            rintro _ _ ⟨rfl, rfl⟩
            refine V_y (Y_move rfl) rfl rfl rfl ?_
            refine V_cut 3 (fun _ : Unit => [(0, .string word), (4, .int .i64 (word.size : Int)), (60, .bool (x38 && (decide ((6 : Int) ≤ (word.size : Int)))))]) (fun _ w' => w = w') ?_ ?_
            · simp only [List.take, List.drop]
              rcases Bool.eq_false_or_eq_true (x38) with hc39 | hc39
              · refine V_ge rfl rfl rfl hc39 ?_
                refine V_y (Y_move rfl) rfl rfl rfl ?_
                refine V_ge rfl rfl rfl hc39 ?_
                refine V_y (Y_geq rfl rfl) rfl rfl rfl ?_
                refine V_y (Y_pick_te rfl hc39 rfl) rfl rfl rfl ?_
                exact V_end fun a ha => ⟨(), ha.sub ⟨rfl, rfl, (by rw [hc39]; rfl), trivial⟩, rfl⟩
              · refine V_gn rfl rfl rfl hc39 rfl rfl rfl ?_
                refine V_gn rfl rfl rfl hc39 rfl rfl rfl ?_
                refine V_y (Y_pick_fe rfl hc39 rfl) rfl rfl rfl ?_
                exact V_end fun a ha => ⟨(), ha.sub ⟨rfl, rfl, (by rw [hc39]; rfl), trivial⟩, rfl⟩
            simp only [List.take, List.drop]
            rintro _ _ rfl
            refine V_y (Y_assign rfl) rfl rfl rfl ?_
            refine V_to (fun _ _ => rfl) ?_
            refine C_cond rfl (fun hc41 => ?_) (fun hc41 => ?_)
            · rw [if_pos hc41] at hm
              refine C_seq ?_
              refine C_region ?_
              refine V_y (Y_move rfl) rfl rfl rfl ?_
              refine V_y (Y_move rfl) rfl rfl rfl ?_
              refine V_y (Y_subI rfl rfl) rfl rfl rfl ?_
              obtain ⟨x42, hx42, hm⟩ := Option.bind_eq_some_iff.1 hm
              refine V_y (Y_sliceSH hx42 Tryz.underlying9 rfl rfl) rfl rfl rfl ?_
              refine V_y (Y_assign rfl) rfl rfl rfl ?_
              refine V_to (fun _ _ => rfl) ?_
              obtain rfl := Option.some.inj hm
              refine C_ret ?_
              try simp only [↓inBlock_ret, ↓then_ret]
              exact retQ rfl (Res.one Tryz.results6 rfl) ⟨rfl, rfl⟩
            · rw [if_neg (nt hc41)] at hm
              refine C_seq ?_
              refine C_region ?_
              refine V_y (Y_move rfl) rfl rfl rfl ?_
              obtain ⟨x43, hx43, hm⟩ := Option.bind_eq_some_iff.1 hm
              refine V_call Tryz.call17 rfl rfl rfl rfl (strings_HasSuffix_c w word (⟨#[101, 100]⟩ : ByteArray) hx43) ?_
              rintro _ _ ⟨rfl, rfl⟩
              refine V_y (Y_move rfl) rfl rfl rfl ?_
              refine V_cut 3 (fun _ : Unit => [(0, .string word), (4, .int .i64 (word.size : Int)), (71, .bool (x43 && (decide ((5 : Int) ≤ (word.size : Int)))))]) (fun _ w' => w = w') ?_ ?_
              · simp only [List.take, List.drop]
                rcases Bool.eq_false_or_eq_true (x43) with hc44 | hc44
                · refine V_ge rfl rfl rfl hc44 ?_
                  refine V_y (Y_move rfl) rfl rfl rfl ?_
                  refine V_ge rfl rfl rfl hc44 ?_
                  refine V_y (Y_geq rfl rfl) rfl rfl rfl ?_
                  refine V_y (Y_pick_te rfl hc44 rfl) rfl rfl rfl ?_
                  exact V_end fun a ha => ⟨(), ha.sub ⟨rfl, rfl, (by rw [hc44]; rfl), trivial⟩, rfl⟩
                · refine V_gn rfl rfl rfl hc44 rfl rfl rfl ?_
                  refine V_gn rfl rfl rfl hc44 rfl rfl rfl ?_
                  refine V_y (Y_pick_fe rfl hc44 rfl) rfl rfl rfl ?_
                  exact V_end fun a ha => ⟨(), ha.sub ⟨rfl, rfl, (by rw [hc44]; rfl), trivial⟩, rfl⟩
              simp only [List.take, List.drop]
              rintro _ _ rfl
              refine V_y (Y_assign rfl) rfl rfl rfl ?_
              refine V_to (fun _ _ => rfl) ?_
              refine C_cond rfl (fun hc46 => ?_) (fun hc46 => ?_)
              · rw [if_pos hc46] at hm
                refine C_seq ?_
                refine C_region ?_
                refine V_y (Y_move rfl) rfl rfl rfl ?_
                refine V_y (Y_move rfl) rfl rfl rfl ?_
                refine V_y (Y_subI rfl rfl) rfl rfl rfl ?_
                obtain ⟨x47, hx47, hm⟩ := Option.bind_eq_some_iff.1 hm
                refine V_y (Y_sliceSH hx47 Tryz.underlying9 rfl rfl) rfl rfl rfl ?_
                refine V_y (Y_assign rfl) rfl rfl rfl ?_
                refine V_to (fun _ _ => rfl) ?_
                obtain rfl := Option.some.inj hm
                refine C_ret ?_
                try simp only [↓inBlock_ret, ↓then_ret]
                exact retQ rfl (Res.one Tryz.results6 rfl) ⟨rfl, rfl⟩
              · rw [if_neg (nt hc46)] at hm
                refine C_skip_to (fun _ _ => rfl) ?_
                refine C_seq ?_
                refine C_region ?_
                refine V_y (Y_move rfl) rfl rfl rfl ?_
                refine V_y (Y_assign rfl) rfl rfl rfl ?_
                refine V_to (fun _ _ => rfl) ?_
                obtain rfl := Option.some.inj hm
                refine C_ret ?_
                try simp only [↓inBlock_ret, ↓then_ret]
                exact retQ rfl (Res.one Tryz.results6 rfl) ⟨rfl, rfl⟩

def Tryz_strings_Trim_lay_ren : Go.Shelf.Ren := ⟨fun | 119 => 87 | 120 => 69 | 137 => 86 | 151 => 46 | 152 => 68 | 160 => 18 | 197 => 45 | 217 => 100 | 224 => 88 | 225 => 89 | 227 => 33 | 228 => 44 | 231 => 31 | 232 => 32 | 233 => 34 | 234 => 35 | 235 => 36 | 236 => 37 | 260 => 67 | 266 => 112 | 271 => 47 | n => n, fun | 0 => 0 | 1 => 1 | 2 => 2 | 3 => 3 | 4 => 4 | 5 => 5 | 6 => 6 | 7 => 7 | 8 => 8 | 9 => 9 | 10 => 10 | 11 => 11 | 12 => 12 | 13 => 13 | 14 => 14 | 15 => 15 | 16 => 16 | 17 => 17 | 18 => 18 | 19 => 19 | 20 => 20 | 21 => 21 | 22 => 32 | 23 => 33 | 27 => 130 | 28 => 28 | 31 => 22 | 34 => 27 | 35 => 34 | 37 => 42 | 40 => 128 | 41 => 31 | 46 => 52 | 47 => 51 | 51 => 57 | 52 => 83 | 53 => 85 | 54 => 84 | 55 => 127 | 63 => 73 | 64 => 95 | 68 => 23 | 69 => 25 | 70 => 191 | 71 => 192 | 72 => 193 | 73 => 195 | 74 => 36 | 75 => 37 | 76 => 38 | 77 => 39 | 80 => 176 | 81 => 182 | 83 => 108 | 84 => 153 | 85 => 87 | 86 => 88 | 94 => 210 | 101 => 26 | 102 => 24 | 103 => 194 | 104 => 30 | 105 => 71 | 106 => 72 | 108 => 107 | 111 => 102 | 112 => 79 | 114 => 129 | 115 => 44 | 116 => 45 | 117 => 46 | 118 => 47 | 119 => 117 | 122 => 43 | 123 => 48 | 124 => 49 | 127 => 135 | 128 => 53 | 131 => 81 | 134 => 50 | 137 => 124 | 138 => 125 | 139 => 126 | 143 => 136 | 144 => 137 | 145 => 138 | 146 => 211 | 151 => 212 | 164 => 158 | 165 => 196 | 166 => 197 | 167 => 86 | 168 => 89 | 169 => 90 | 170 => 91 | 171 => 164 | 172 => 165 | 173 => 166 | 174 => 167 | 175 => 103 | 176 => 104 | 181 => 74 | 182 => 75 | 183 => 76 | 184 => 77 | 185 => 78 | 186 => 80 | 187 => 82 | 209 => 105 | 210 => 106 | 211 => 171 | 212 => 172 | 213 => 173 | 214 => 134 | 218 => 96 | 219 => 97 | 220 => 98 | 221 => 99 | 222 => 100 | 223 => 101 | 228 => 131 | 229 => 132 | 230 => 133 | 232 => 174 | 233 => 175 | 238 => 177 | 239 => 178 | 240 => 179 | 241 => 180 | 242 => 181 | 243 => 183 | 244 => 184 | 245 => 185 | 246 => 186 | 247 => 187 | 248 => 188 | 249 => 189 | n => n, fun | 1 => 4 | 3 => 2 | 4 => 3 | 15 => 0 | 16 => 1 | 17 => 5 | 18 => 6 | 19 => 7 | n => n⟩
theorem Tryz_strings_Trim_lay : Go.Proofs.Lays.n160 Tryz.prog Tryz_strings_Trim_lay_ren := {
  mixed := by kernel_rfl,
  f119 := Tryz.func87.trans (congrArg some (by kernel_rfl)),
  f120 := Tryz.func69.trans (congrArg some (by kernel_rfl)),
  f137 := Tryz.func86.trans (congrArg some (by kernel_rfl)),
  f151 := Tryz.func46.trans (congrArg some (by kernel_rfl)),
  f152 := Tryz.func68.trans (congrArg some (by kernel_rfl)),
  f160 := Tryz.func18.trans (congrArg some (by kernel_rfl)),
  f197 := Tryz.func45.trans (congrArg some (by kernel_rfl)),
  f217 := Tryz.func100.trans (congrArg some (by kernel_rfl)),
  f224 := Tryz.func88.trans (congrArg some (by kernel_rfl)),
  f225 := Tryz.func89.trans (congrArg some (by kernel_rfl)),
  f227 := Tryz.func33.trans (congrArg some (by kernel_rfl)),
  f228 := Tryz.func44.trans (congrArg some (by kernel_rfl)),
  f231 := Tryz.func31.trans (congrArg some (by kernel_rfl)),
  f232 := Tryz.func32.trans (congrArg some (by kernel_rfl)),
  f233 := Tryz.func34.trans (congrArg some (by kernel_rfl)),
  f234 := Tryz.func35.trans (congrArg some (by kernel_rfl)),
  f235 := Tryz.func36.trans (congrArg some (by kernel_rfl)),
  f236 := Tryz.func37.trans (congrArg some (by kernel_rfl)),
  f260 := Tryz.func67.trans (congrArg some (by kernel_rfl)),
  f266 := Tryz.func112.trans (congrArg some (by kernel_rfl)),
  f271 := Tryz.func47.trans (congrArg some (by kernel_rfl)),
  t0 := Tryz.underlying0,
  a0 := Tryz.isAgg0,
  z0 := Tryz.sizeOf0,
  v0 := Tryz.zeroValue0,
  t3 := Tryz.underlying3,
  a3 := Tryz.isAgg3,
  z3 := Tryz.sizeOf3,
  v3 := Tryz.zeroValue3,
  t4 := Tryz.underlying4,
  a4 := Tryz.isAgg4,
  z4 := Tryz.sizeOf4,
  v4 := Tryz.zeroValue4,
  t5 := Tryz.underlying5,
  a5 := Tryz.isAgg5,
  z5 := Tryz.sizeOf5,
  v5 := Tryz.zeroValue5,
  t9 := Tryz.underlying9,
  a9 := Tryz.isAgg9,
  z9 := Tryz.sizeOf9,
  v9 := Tryz.zeroValue9,
  t21 := Tryz.underlying21,
  a21 := Tryz.isAgg21,
  z21 := Tryz.sizeOf21,
  v21 := Tryz.zeroValue21,
  t46 := Tryz.underlying52,
  a46 := Tryz.isAgg52,
  z46 := Tryz.sizeOf52,
  v46 := Tryz.zeroValue52,
  t105 := Tryz.underlying71,
  a105 := Tryz.isAgg71,
  z105 := Tryz.sizeOf71,
  v105 := Tryz.zeroValue71,
  t116 := Tryz.underlying45,
  a116 := Tryz.isAgg45,
  z116 := Tryz.sizeOf45,
  t117 := Tryz.underlying46,
  a117 := Tryz.isAgg46,
  z117 := Tryz.sizeOf46,
  v117 := Tryz.zeroValue46,
  t119 := Tryz.underlying117,
  a119 := Tryz.isAgg117,
  z119 := Tryz.sizeOf117,
  t124 := Tryz.underlying49,
  a124 := Tryz.isAgg49,
  z124 := Tryz.sizeOf49,
  v124 := Tryz.zeroValue49,
  t138 := Tryz.underlying125,
  a138 := Tryz.isAgg125,
  z138 := Tryz.sizeOf125,
  v138 := Tryz.zeroValue125,
  t139 := Tryz.underlying126,
  a139 := Tryz.isAgg126,
  z139 := Tryz.sizeOf126,
  v139 := Tryz.zeroValue126,
  g3 := by kernel_rfl,
  g4 := by kernel_rfl }
theorem strings_Trim_c (w : World) {A : Nat → Prop} (hA : ∀ b, w.heap.size ≤ b → A b) (s : ByteArray) (cutset : ByteArray) {r : ByteArray} (hm : strings_Trim s cutset = some r) : Ret Tryz.prog 18 #[.string s, .string cutset] w fun v w' => v = .string r ∧ Kp False w w' := by
  unfold strings_Trim at hm
  split at hm
  case isFalse => cases hm
  rename_i h
  obtain rfl := Option.some.inj hm
  refine Calls.mono (Go.Proofs.Any.strings_Trim_laid Tryz_strings_Trim_lay (by kernel_rfl) s cutset w h.1 h.2.1 (Go.Proofs.ascii_of_all h.2.2)) ?_
  rintro _ w' ⟨rfl, hk⟩
  exact ⟨_, rfl, rfl, .of hk⟩

set_option maxRecDepth 4000 in
set_option maxHeartbeats 4000000 in
theorem portref2_StemOf_1_c (w : World) {A : Nat → Prop} (s : ByteArray) (p1 : ByteArray) (b_p1 : Nat) (h_p1 : El A w b_p1 0 p1) {r : Bool} (hm : portref2_StemOf_1 s p1 = some r) : Ret Tryz.prog 19 #[.string s, .pointer (some ⟨b_p1, 0, none⟩)] w fun v w' => v = .bool r ∧ w = w' := by
  unfold portref2_StemOf_1 at hm
  refine enter Tryz.func19 rfl Tryz.ntmps19 rfl ?_
  refine C_seq ?_
  refine C_region ?_
  refine V_y (Y_assign rfl) rfl rfl rfl ?_
  refine V_to (fun _ _ => rfl) ?_
  refine C_seq ?_
  refine C_region ?_
  refine V_y (Y_load (El.str h_p1) Tryz.isAgg9 rfl) rfl rfl rfl ?_
  refine V_y (Y_move rfl) rfl rfl rfl ?_
  obtain ⟨x1, hx1, hm⟩ := Option.bind_eq_some_iff.1 hm
  refine V_call Tryz.call17 rfl rfl rfl rfl (strings_HasSuffix_c w p1 s hx1) ?_
  rintro _ _ ⟨rfl, rfl⟩
  refine V_y (Y_assign rfl) rfl rfl rfl ?_
  refine V_to (fun _ _ => rfl) ?_
  obtain rfl := Option.some.inj hm
  refine C_ret ?_
  try simp only [↓inBlock_ret, ↓then_ret]
  exact retQ rfl (Res.one Tryz.results19 rfl) ⟨rfl, rfl⟩

set_option maxRecDepth 4000 in
set_option maxHeartbeats 4000000 in
theorem portref2_StemOf_c (w : World) {A : Nat → Prop} (hA : ∀ b, w.heap.size ≤ b → A b) (w_ : ByteArray) {r : ByteArray} (hm : portref2_StemOf w_ = some r) : Ret Tryz.prog 7 #[.string w_] w fun v w' => v = .string r ∧ Kp False w w' := by
  unfold portref2_StemOf at hm
  refine enter Tryz.func7 rfl Tryz.ntmps7 rfl ?_
  have hA0 := hA
  have hB := Nat.le_refl w.heap.size
  have hK : Tr False w.heap.size A w A w := Tr.refl (Dw := False) hA
  have hH : Hp w.heap.size A w [] := Hp.nil
  refine C_seq ?_
  refine C_region ?_
  refine V_box rfl rfl ?_
  intro b1 w2 h3
  have hk5 := h3.kp (Dw := False)
  have h4 : El (α := ByteArray) A w2 b1 0 w_ := h3.el hA rfl
  have ht6 := Kp.tr (Dw := False) hk5 hA hB
  replace hH := Hp.kp (Dw := False) hH hk5
  replace hK := Tr.trans (Dw := False) hK ht6
  replace hB := Nat.le_trans hB ht6.ex.size
  replace hA := ht6.new
  refine V_y (Y_assign rfl) rfl rfl rfl ?_
  refine V_to (fun _ _ => rfl) ?_
  refine C_seq ?_
  refine C_region ?_
  refine V_y (Y_load (El.str h4) Tryz.isAgg9 rfl) rfl rfl rfl ?_
  refine V_y (Y_lenStr rfl Tryz.underlying9 rfl) rfl rfl rfl ?_
  refine V_y (Y_assign rfl) rfl rfl rfl ?_
  refine V_to (fun _ _ => rfl) ?_
  refine C_seq ?_
  refine C_seq ?_
  obtain ⟨s8, ho7, hm⟩ := Option.bind_eq_some_iff.1 hm
  refine C_cutG (ι := (Nat → Prop)) (fun (A13 : (Nat → Prop)) => [(1, .pointer (some ⟨b1, 0, none⟩)), (3, .int .i64 (w_.size : Int)), (13, .bool s8)]) (fun (A13 : (Nat → Prop)) => fun w' => Hp w.heap.size A13 w' ([]) ∧ Tr False w.heap.size A w2 A13 w') ?_ ?_
  · have hr9 : Tr False w.heap.size A w2 A w2 := Tr.refl (Dw := False) hA
    refine C_region ?_
    refine V_y (Y_move rfl) rfl rfl rfl ?_
    refine V_y (Y_lss rfl rfl) rfl rfl rfl ?_
    refine V_y (Y_move rfl) rfl rfl rfl ?_
    rcases Bool.eq_false_or_eq_true (decide ((w_.size : Int) < 4)) with hc15 | hc15
    · rw [if_pos hc15] at ho7
      refine V_gn rfl rfl rfl hc15 rfl rfl rfl ?_
      refine V_gn rfl rfl rfl hc15 rfl rfl rfl ?_
      refine V_gn rfl rfl rfl hc15 rfl rfl rfl ?_
      refine V_y (Y_pick_te rfl hc15 rfl) rfl rfl rfl ?_
      obtain rfl := Option.some.inj ho7
      refine V_end (fun a ha16 => ?_)
      exact ⟨A, ha16.sub ⟨rfl, rfl, rfl, trivial⟩, ⟨hH, hr9⟩⟩
    · rw [if_neg (nt hc15)] at ho7
      refine V_ge rfl rfl rfl hc15 ?_
      refine V_y (Y_load (El.str h4) Tryz.isAgg9 rfl) rfl rfl rfl ?_
      refine V_ge rfl rfl rfl hc15 ?_
      obtain ⟨x17, hx17, ho7⟩ := Option.bind_eq_some_iff.1 ho7
      refine V_call Tryz.call18 rfl rfl rfl rfl (strings_Trim_c w2 hA w_ (⟨#[97, 98, 99, 100, 101, 102, 103, 104, 105, 106, 107, 108, 109, 110, 111, 112, 113, 114, 115, 116, 117, 118, 119, 120, 121, 122]⟩ : ByteArray) hx17) ?_
      rintro _ w18 ⟨rfl, hk19⟩
      have ht20 := Kp.tr (Dw := False) hk19 hA hB
      replace hH := Hp.kp (Dw := False) hH hk19
      replace h4 := El.tr (Dw := False) h4 ht20
      replace hK := Tr.trans (Dw := False) hK ht20
      replace hr9 := Tr.trans (Dw := False) hr9 ht20
      replace hB := Nat.le_trans hB ht20.ex.size
      replace hA := ht20.new
      refine V_ge rfl rfl rfl hc15 ?_
      refine V_y (Y_sneq rfl rfl) rfl rfl rfl ?_
      refine V_y (Y_pick_fe rfl hc15 rfl) rfl rfl rfl ?_
      obtain rfl := Option.some.inj ho7
      refine V_end (fun a ha21 => ?_)
      exact ⟨A, ha21.sub ⟨rfl, rfl, rfl, trivial⟩, ⟨hH, hr9⟩⟩
  rintro A13 w10 ⟨hH14, hk11⟩ a ha12
  replace h4 := El.tr (Dw := False) h4 hk11
  replace hK := Tr.trans (Dw := False) hK hk11
  replace hB := Nat.le_trans hB hk11.ex.size
  replace hA := hk11.new
  replace hH : Hp w.heap.size A13 w10 ([]) := hH14
  refine C_at (n := ⟨65, [], none⟩) (fun _ _ => rfl) ?_ ha12
  refine C_cond rfl (fun hc22 => ?_) (fun hc22 => ?_)
  · rw [if_pos hc22] at hm
    refine C_seq ?_
    refine C_region ?_
    refine V_y (Y_load (El.str h4) Tryz.isAgg9 rfl) rfl rfl rfl ?_
    refine V_y (Y_assign rfl) rfl rfl rfl ?_
    refine V_to (fun _ _ => rfl) ?_
    obtain rfl := Option.some.inj hm
    refine C_ret ?_
    try simp only [↓inBlock_ret, ↓then_ret]
    exact retQ rfl (Res.one Tryz.results7 rfl) ⟨rfl, hK.kp⟩
  · rw [if_neg (nt hc22)] at hm
    refine C_skip_to (fun _ _ => rfl) ?_
    refine C_seq ?_
    refine C_region ?_
    refine V_y (Y_makeFunc rfl rfl) rfl rfl rfl ?_
    refine V_y (Y_assign rfl) rfl rfl rfl ?_
    refine V_to (fun _ _ => rfl) ?_
    refine C_seq ?_
    refine C_block ?_
    refine C_seq ?_
    refine C_region ?_
    refine V_y (Y_move rfl) rfl rfl rfl ?_
    obtain ⟨x23, hx23, hm⟩ := Option.bind_eq_some_iff.1 hm
    refine V_call Tryz.call19 rfl rfl rfl rfl (portref2_StemOf_1_c w10 (⟨#[105, 101, 115]⟩ : ByteArray) w_ b1 h4 hx23) ?_
    rintro _ _ ⟨rfl, rfl⟩
    refine V_y (Y_assign rfl) rfl rfl rfl ?_
    refine V_to (fun _ _ => rfl) ?_
    refine C_cond rfl (fun hc24 => ?_) (fun hc24 => ?_)
    · rw [if_pos hc24] at hm
      refine C_seq ?_
      refine C_region ?_
      refine V_y (Y_load (El.str h4) Tryz.isAgg9 rfl) rfl rfl rfl ?_
      refine V_y (Y_move rfl) rfl rfl rfl ?_
      refine V_y (Y_subI rfl rfl) rfl rfl rfl ?_
      obtain ⟨x25, hx25, hm⟩ := Option.bind_eq_some_iff.1 hm
      refine V_y (Y_sliceSH hx25 Tryz.underlying9 rfl rfl) rfl rfl rfl ?_
      obtain ⟨x26, hx26, hm⟩ := Option.bind_eq_some_iff.1 hm
      refine V_y (Y_sadd hx26 rfl rfl) rfl rfl rfl ?_
      refine V_y (Y_assign rfl) rfl rfl rfl ?_
      refine V_to (fun _ _ => rfl) ?_
      obtain rfl := Option.some.inj hm
      refine C_ret ?_
      try simp only [↓inBlock_ret, ↓then_ret]
      exact retQ rfl (Res.one Tryz.results7 rfl) ⟨rfl, hK.kp⟩
    · rw [if_neg (nt hc24)] at hm
      refine C_seq ?_
      refine C_region ?_
      refine V_y (Y_move rfl) rfl rfl rfl ?_
      obtain ⟨x27, hx27, hm⟩ := Option.bind_eq_some_iff.1 hm
      refine V_call Tryz.call19 rfl rfl rfl rfl (portref2_StemOf_1_c w10 (⟨#[115, 115, 101, 115]⟩ : ByteArray) w_ b1 h4 hx27) ?_
      rintro _ _ ⟨rfl, rfl⟩
      refine V_y (Y_assign rfl) rfl rfl rfl ?_
      refine V_to (fun _ _ => rfl) ?_
      refine C_cond rfl (fun hc28 => ?_) (fun hc28 => ?_)
      · rw [if_pos hc28] at hm
        refine C_seq ?_
        refine C_region ?_
        refine V_y (Y_load (El.str h4) Tryz.isAgg9 rfl) rfl rfl rfl ?_
        refine V_y (Y_move rfl) rfl rfl rfl ?_
        refine V_y (Y_subI rfl rfl) rfl rfl rfl ?_
        obtain ⟨x29, hx29, hm⟩ := Option.bind_eq_some_iff.1 hm
        refine V_y (Y_sliceSH hx29 Tryz.underlying9 rfl rfl) rfl rfl rfl ?_
        refine V_y (Y_assign rfl) rfl rfl rfl ?_
        refine V_to (fun _ _ => rfl) ?_
        obtain rfl := Option.some.inj hm
        refine C_ret ?_
        try simp only [↓inBlock_ret, ↓then_ret]
        exact retQ rfl (Res.one Tryz.results7 rfl) ⟨rfl, hK.kp⟩
      · rw [if_neg (nt hc28)] at hm
        refine C_seq ?_
        refine C_region ?_
        refine V_y (Y_move rfl) rfl rfl rfl ?_
        obtain ⟨x30, hx30, hm⟩ := Option.bind_eq_some_iff.1 hm
        refine V_call Tryz.call19 rfl rfl rfl rfl (portref2_StemOf_1_c w10 (⟨#[115, 115]⟩ : ByteArray) w_ b1 h4 hx30) ?_
        rintro _ _ ⟨rfl, rfl⟩
        refine V_y (Y_assign rfl) rfl rfl rfl ?_
        refine V_to (fun _ _ => rfl) ?_
        refine C_cond rfl (fun hc31 => ?_) (fun hc31 => ?_)
        · rw [if_pos hc31] at hm
          refine C_seq ?_
          refine C_region ?_
          refine V_y (Y_load (El.str h4) Tryz.isAgg9 rfl) rfl rfl rfl ?_
          refine V_y (Y_assign rfl) rfl rfl rfl ?_
          refine V_to (fun _ _ => rfl) ?_
          obtain rfl := Option.some.inj hm
          refine C_ret ?_
          try simp only [↓inBlock_ret, ↓then_ret]
          exact retQ rfl (Res.one Tryz.results7 rfl) ⟨rfl, hK.kp⟩
        · rw [if_neg (nt hc31)] at hm
          refine C_seq ?_
          refine C_region ?_
          refine V_y (Y_move rfl) rfl rfl rfl ?_
          obtain ⟨x32, hx32, hm⟩ := Option.bind_eq_some_iff.1 hm
          refine V_call Tryz.call19 rfl rfl rfl rfl (portref2_StemOf_1_c w10 (⟨#[115]⟩ : ByteArray) w_ b1 h4 hx32) ?_
          rintro _ _ ⟨rfl, rfl⟩
          refine V_y (Y_assign rfl) rfl rfl rfl ?_
          refine V_to (fun _ _ => rfl) ?_
          refine C_cond rfl (fun hc33 => ?_) (fun hc33 => ?_)
          · rw [if_pos hc33] at hm
            refine C_seq ?_
            refine C_region ?_
            refine V_y (Y_load (El.str h4) Tryz.isAgg9 rfl) rfl rfl rfl ?_
            refine V_y (Y_move rfl) rfl rfl rfl ?_
            refine V_y (Y_subI rfl rfl) rfl rfl rfl ?_
            obtain ⟨x34, hx34, hm⟩ := Option.bind_eq_some_iff.1 hm
            refine V_y (Y_sliceSH hx34 Tryz.underlying9 rfl rfl) rfl rfl rfl ?_
            refine V_y (Y_assign rfl) rfl rfl rfl ?_
            refine V_to (fun _ _ => rfl) ?_
            obtain rfl := Option.some.inj hm
            refine C_ret ?_
            try simp only [↓inBlock_ret, ↓then_ret]
            exact retQ rfl (Res.one Tryz.results7 rfl) ⟨rfl, hK.kp⟩
          · rw [if_neg (nt hc33)] at hm
            refine C_seq ?_
            refine C_region ?_
            refine V_y (Y_move rfl) rfl rfl rfl ?_
            obtain ⟨x35, hx35, hm⟩ := Option.bind_eq_some_iff.1 hm
            refine V_call Tryz.call19 rfl rfl rfl rfl (portref2_StemOf_1_c w10 (⟨#[105, 110, 103]⟩ : ByteArray) w_ b1 h4 hx35) ?_
            rintro _ _ ⟨rfl, rfl⟩
            refine V_y (Y_move rfl) rfl rfl rfl ?_
            refine V_cut 3 (fun _ : Unit => [(1, .pointer (some ⟨b1, 0, none⟩)), (3, .int .i64 (w_.size : Int)), (4, .func (.func 19) #[] #[.pointer (some ⟨b1, 0, none⟩)]), (48, .bool (x35 && (decide ((6 : Int) ≤ (w_.size : Int)))))]) (fun _ w' => w10 = w') ?_ ?_
            · simp only [List.take, List.drop]
              rcases Bool.eq_false_or_eq_true (x35) with hc36 | hc36
              · refine V_ge rfl rfl rfl hc36 ?_
                refine V_y (Y_move rfl) rfl rfl rfl ?_
                refine V_ge rfl rfl rfl hc36 ?_
                refine V_y (Y_geq rfl rfl) rfl rfl rfl ?_
                refine V_y (Y_pick_te rfl hc36 rfl) rfl rfl rfl ?_
                exact V_end fun a ha => ⟨(), ha.sub ⟨rfl, rfl, rfl, (by rw [hc36]; rfl), trivial⟩, rfl⟩
              · refine V_gn rfl rfl rfl hc36 rfl rfl rfl ?_
                refine V_gn rfl rfl rfl hc36 rfl rfl rfl ?_
                refine V_y (Y_pick_fe rfl hc36 rfl) rfl rfl rfl ?_
                exact V_end fun a ha => ⟨(), ha.sub ⟨rfl, rfl, rfl, (by rw [hc36]; rfl), trivial⟩, rfl⟩
            simp only [List.take, List.drop]
            rintro _ _ rfl
            refine V_y (Y_assign rfl) rfl rfl rfl ?_
            refine V_to (fun _ _ => rfl) ?_
            refine C_cond rfl (fun hc38 => ?_) (fun hc38 => ?_)
            · rw [if_pos hc38] at hm
              refine C_seq ?_
              refine C_region ?_
              refine V_y (Y_load (El.str h4) Tryz.isAgg9 rfl) rfl rfl rfl ?_
              refine V_y (Y_move rfl) rfl rfl rfl ?_
              refine V_y (Y_subI rfl rfl) rfl rfl rfl ?_
              obtain ⟨x39, hx39, hm⟩ := Option.bind_eq_some_iff.1 hm
              refine V_y (Y_sliceSH hx39 Tryz.underlying9 rfl rfl) rfl rfl rfl ?_
              refine V_y (Y_assign rfl) rfl rfl rfl ?_
              refine V_to (fun _ _ => rfl) ?_
              obtain rfl := Option.some.inj hm
              refine C_ret ?_
              try simp only [↓inBlock_ret, ↓then_ret]
              exact retQ rfl (Res.one Tryz.results7 rfl) ⟨rfl, hK.kp⟩
            · rw [if_neg (nt hc38)] at hm
              refine C_seq ?_
              refine C_region ?_
              refine V_y (Y_move rfl) rfl rfl rfl ?_
              obtain ⟨x40, hx40, hm⟩ := Option.bind_eq_some_iff.1 hm
              refine V_call Tryz.call19 rfl rfl rfl rfl (portref2_StemOf_1_c w10 (⟨#[101, 100]⟩ : ByteArray) w_ b1 h4 hx40) ?_
              rintro _ _ ⟨rfl, rfl⟩
              refine V_y (Y_move rfl) rfl rfl rfl ?_
              refine V_cut 3 (fun _ : Unit => [(1, .pointer (some ⟨b1, 0, none⟩)), (3, .int .i64 (w_.size : Int)), (59, .bool (x40 && (decide ((5 : Int) ≤ (w_.size : Int)))))]) (fun _ w' => w10 = w') ?_ ?_
              · simp only [List.take, List.drop]
                rcases Bool.eq_false_or_eq_true (x40) with hc41 | hc41
                · refine V_ge rfl rfl rfl hc41 ?_
                  refine V_y (Y_move rfl) rfl rfl rfl ?_
                  refine V_ge rfl rfl rfl hc41 ?_
                  refine V_y (Y_geq rfl rfl) rfl rfl rfl ?_
                  refine V_y (Y_pick_te rfl hc41 rfl) rfl rfl rfl ?_
                  exact V_end fun a ha => ⟨(), ha.sub ⟨rfl, rfl, (by rw [hc41]; rfl), trivial⟩, rfl⟩
                · refine V_gn rfl rfl rfl hc41 rfl rfl rfl ?_
                  refine V_gn rfl rfl rfl hc41 rfl rfl rfl ?_
                  refine V_y (Y_pick_fe rfl hc41 rfl) rfl rfl rfl ?_
                  exact V_end fun a ha => ⟨(), ha.sub ⟨rfl, rfl, (by rw [hc41]; rfl), trivial⟩, rfl⟩
              simp only [List.take, List.drop]
              rintro _ _ rfl
              refine V_y (Y_assign rfl) rfl rfl rfl ?_
              refine V_to (fun _ _ => rfl) ?_
              refine C_cond rfl (fun hc43 => ?_) (fun hc43 => ?_)
              · rw [if_pos hc43] at hm
                refine C_seq ?_
                refine C_region ?_
                refine V_y (Y_load (El.str h4) Tryz.isAgg9 rfl) rfl rfl rfl ?_
                refine V_y (Y_move rfl) rfl rfl rfl ?_
                refine V_y (Y_subI rfl rfl) rfl rfl rfl ?_
                obtain ⟨x44, hx44, hm⟩ := Option.bind_eq_some_iff.1 hm
                refine V_y (Y_sliceSH hx44 Tryz.underlying9 rfl rfl) rfl rfl rfl ?_
                refine V_y (Y_assign rfl) rfl rfl rfl ?_
                refine V_to (fun _ _ => rfl) ?_
                obtain rfl := Option.some.inj hm
                refine C_ret ?_
                try simp only [↓inBlock_ret, ↓then_ret]
                exact retQ rfl (Res.one Tryz.results7 rfl) ⟨rfl, hK.kp⟩
              · rw [if_neg (nt hc43)] at hm
                refine C_skip_to (fun _ _ => rfl) ?_
                refine C_seq ?_
                refine C_region ?_
                refine V_y (Y_load (El.str h4) Tryz.isAgg9 rfl) rfl rfl rfl ?_
                refine V_y (Y_assign rfl) rfl rfl rfl ?_
                refine V_to (fun _ _ => rfl) ?_
                obtain rfl := Option.some.inj hm
                refine C_ret ?_
                try simp only [↓inBlock_ret, ↓then_ret]
                exact retQ rfl (Res.one Tryz.results7 rfl) ⟨rfl, hK.kp⟩

set_option maxRecDepth 4000 in
set_option maxHeartbeats 4000000 in
theorem know_letter_c (w : World) (c : Int) : Ret Tryz.prog 22 #[.int .u8 c] w fun v w' => v = .bool (know_letter c) ∧ w = w' := by
  generalize hm : know_letter c = r
  unfold know_letter at hm
  refine enter Tryz.func22 rfl Tryz.ntmps22 rfl ?_
  refine C_seq ?_
  refine C_region ?_
  refine V_y (Y_assign rfl) rfl rfl rfl ?_
  refine V_to (fun _ _ => rfl) ?_
  refine C_seq ?_
  refine C_region ?_
  refine V_y (Y_move rfl) rfl rfl rfl ?_
  refine V_y (Y_geq rfl rfl) rfl rfl rfl ?_
  refine V_y (Y_move rfl) rfl rfl rfl ?_
  refine V_cut 3 (fun _ : Unit => [(0, .int .u8 c), (8, .bool ((decide ((97 : Int) ≤ c)) && (decide (c ≤ 122))))]) (fun _ w' => w = w') ?_ ?_
  · simp only [List.take, List.drop]
    rcases Bool.eq_false_or_eq_true (decide ((97 : Int) ≤ c)) with hc1 | hc1
    · refine V_ge rfl rfl rfl hc1 ?_
      refine V_y (Y_move rfl) rfl rfl rfl ?_
      refine V_ge rfl rfl rfl hc1 ?_
      refine V_y (Y_leq rfl rfl) rfl rfl rfl ?_
      refine V_y (Y_pick_te rfl hc1 rfl) rfl rfl rfl ?_
      exact V_end fun a ha => ⟨(), ha.sub ⟨rfl, (by rw [hc1]; rfl), trivial⟩, rfl⟩
    · refine V_gn rfl rfl rfl hc1 rfl rfl rfl ?_
      refine V_gn rfl rfl rfl hc1 rfl rfl rfl ?_
      refine V_y (Y_pick_fe rfl hc1 rfl) rfl rfl rfl ?_
      exact V_end fun a ha => ⟨(), ha.sub ⟨rfl, (by rw [hc1]; rfl), trivial⟩, rfl⟩
  simp only [List.take, List.drop]
  rintro _ _ rfl
  refine V_y (Y_move rfl) rfl rfl rfl ?_
  refine V_cut 7 (fun _ : Unit => [(16, .bool (((decide ((97 : Int) ≤ c)) && (decide (c ≤ 122))) || ((decide ((65 : Int) ≤ c)) && (decide (c ≤ 90)))))]) (fun _ w' => w = w') ?_ ?_
  · simp only [List.take, List.drop]
    rcases Bool.eq_false_or_eq_true (((decide ((97 : Int) ≤ c)) && (decide (c ≤ 122)))) with hc3 | hc3
    · refine V_gn rfl rfl rfl hc3 rfl rfl rfl ?_
      refine V_gn rfl rfl rfl hc3 rfl rfl rfl ?_
      refine V_gn rfl rfl rfl hc3 rfl rfl rfl ?_
      refine V_gu rfl rfl rfl rfl rfl ?_
      refine V_gu rfl rfl rfl rfl rfl ?_
      refine V_gn rfl rfl rfl hc3 rfl rfl rfl ?_
      refine V_y (Y_pick_te rfl hc3 rfl) rfl rfl rfl ?_
      exact V_end fun a ha => ⟨(), ha.sub ⟨(by rw [hc3]; rfl), trivial⟩, rfl⟩
    · refine V_ge rfl rfl rfl hc3 ?_
      refine V_y (Y_move rfl) rfl rfl rfl ?_
      refine V_ge rfl rfl rfl hc3 ?_
      refine V_y (Y_geq rfl rfl) rfl rfl rfl ?_
      refine V_ge rfl rfl rfl hc3 ?_
      refine V_y (Y_move rfl) rfl rfl rfl ?_
      refine V_cut 3 (fun _ : Unit => [(9, .bool ((decide ((97 : Int) ≤ c)) && (decide (c ≤ 122)))), (15, .bool ((decide ((65 : Int) ≤ c)) && (decide (c ≤ 90))))]) (fun _ w' => w = w') ?_ ?_
      · simp only [List.take, List.drop]
        rcases Bool.eq_false_or_eq_true (decide ((65 : Int) ≤ c)) with hc5 | hc5
        · refine V_ge rfl rfl rfl hc5 ?_
          refine V_y (Y_move rfl) rfl rfl rfl ?_
          refine V_ge rfl rfl rfl hc5 ?_
          refine V_y (Y_leq rfl rfl) rfl rfl rfl ?_
          refine V_ge rfl rfl rfl hc3 ?_
          refine V_y (Y_pick_te rfl hc5 rfl) rfl rfl rfl ?_
          exact V_end fun a ha => ⟨(), ha.sub ⟨rfl, (by rw [hc5]; rfl), trivial⟩, rfl⟩
        · refine V_gn rfl rfl rfl hc5 rfl rfl rfl ?_
          refine V_gn rfl rfl rfl hc5 rfl rfl rfl ?_
          refine V_ge rfl rfl rfl hc3 ?_
          refine V_y (Y_pick_fe rfl hc5 rfl) rfl rfl rfl ?_
          exact V_end fun a ha => ⟨(), ha.sub ⟨rfl, (by rw [hc5]; rfl), trivial⟩, rfl⟩
      simp only [List.take, List.drop]
      rintro _ _ rfl
      refine V_y (Y_pick_fe rfl hc3 rfl) rfl rfl rfl ?_
      exact V_end fun a ha => ⟨(), ha.sub ⟨(by rw [hc3]; rfl), trivial⟩, rfl⟩
  simp only [List.take, List.drop]
  rintro _ _ rfl
  refine V_y (Y_assign rfl) rfl rfl rfl ?_
  refine V_to (fun _ _ => rfl) ?_
  obtain rfl := hm
  refine C_ret ?_
  try simp only [↓inBlock_ret, ↓then_ret]
  exact retQ rfl (Res.one Tryz.results22 rfl) ⟨rfl, rfl⟩

set_option maxRecDepth 4000 in
set_option maxHeartbeats 4000000 in
theorem know_digit_c (w : World) (c : Int) : Ret Tryz.prog 23 #[.int .u8 c] w fun v w' => v = .bool (know_digit c) ∧ w = w' := by
  generalize hm : know_digit c = r
  unfold know_digit at hm
  refine enter Tryz.func23 rfl Tryz.ntmps23 rfl ?_
  refine C_seq ?_
  refine C_region ?_
  refine V_y (Y_assign rfl) rfl rfl rfl ?_
  refine V_to (fun _ _ => rfl) ?_
  refine C_seq ?_
  refine C_region ?_
  refine V_y (Y_move rfl) rfl rfl rfl ?_
  refine V_y (Y_geq rfl rfl) rfl rfl rfl ?_
  refine V_y (Y_move rfl) rfl rfl rfl ?_
  refine V_cut 3 (fun _ : Unit => [(8, .bool ((decide ((48 : Int) ≤ c)) && (decide (c ≤ 57))))]) (fun _ w' => w = w') ?_ ?_
  · simp only [List.take, List.drop]
    rcases Bool.eq_false_or_eq_true (decide ((48 : Int) ≤ c)) with hc1 | hc1
    · refine V_ge rfl rfl rfl hc1 ?_
      refine V_y (Y_move rfl) rfl rfl rfl ?_
      refine V_ge rfl rfl rfl hc1 ?_
      refine V_y (Y_leq rfl rfl) rfl rfl rfl ?_
      refine V_y (Y_pick_te rfl hc1 rfl) rfl rfl rfl ?_
      exact V_end fun a ha => ⟨(), ha.sub ⟨(by rw [hc1]; rfl), trivial⟩, rfl⟩
    · refine V_gn rfl rfl rfl hc1 rfl rfl rfl ?_
      refine V_gn rfl rfl rfl hc1 rfl rfl rfl ?_
      refine V_y (Y_pick_fe rfl hc1 rfl) rfl rfl rfl ?_
      exact V_end fun a ha => ⟨(), ha.sub ⟨(by rw [hc1]; rfl), trivial⟩, rfl⟩
  simp only [List.take, List.drop]
  rintro _ _ rfl
  refine V_y (Y_assign rfl) rfl rfl rfl ?_
  refine V_to (fun _ _ => rfl) ?_
  obtain rfl := hm
  refine C_ret ?_
  try simp only [↓inBlock_ret, ↓then_ret]
  exact retQ rfl (Res.one Tryz.results23 rfl) ⟨rfl, rfl⟩

def Tryz_cp25_ren : Go.Shelf.Ren := ⟨fun | 20 => 25 | n => n, fun | 0 => 0 | 1 => 1 | 2 => 2 | 3 => 3 | 4 => 4 | 5 => 5 | 6 => 6 | 7 => 7 | 8 => 8 | 9 => 9 | 10 => 10 | 11 => 11 | 12 => 12 | 13 => 13 | 14 => 14 | 15 => 15 | 16 => 16 | 17 => 17 | 18 => 18 | 19 => 19 | 20 => 20 | 21 => 21 | 22 => 28 | 23 => 35 | 24 => 22 | 25 => 24 | 33 => 81 | 36 => 27 | 38 => 26 | 40 => 52 | 41 => 79 | 42 => 102 | 43 => 32 | 44 => 30 | 45 => 34 | 46 => 176 | 47 => 177 | 48 => 178 | 49 => 179 | 50 => 180 | 51 => 181 | 52 => 182 | 53 => 57 | 54 => 183 | 55 => 184 | 56 => 185 | 57 => 135 | 58 => 186 | 59 => 187 | 60 => 188 | 61 => 189 | 62 => 158 | n => n, fun n => n⟩
theorem Tryz_cp25_lay : Go.Proofs.Lays2.n20 Tryz.prog Tryz_cp25_ren := {
  mixed := by kernel_rfl,
  f20 := Tryz.func25.trans (congrArg some (by kernel_rfl)),
  t0 := Tryz.underlying0,
  a0 := Tryz.isAgg0,
  z0 := Tryz.sizeOf0,
  v0 := Tryz.zeroValue0,
  t3 := Tryz.underlying3,
  a3 := Tryz.isAgg3,
  z3 := Tryz.sizeOf3,
  v3 := Tryz.zeroValue3,
  t4 := Tryz.underlying4,
  a4 := Tryz.isAgg4,
  z4 := Tryz.sizeOf4,
  v4 := Tryz.zeroValue4,
  t22 := Tryz.underlying28,
  a22 := Tryz.isAgg28,
  z22 := Tryz.sizeOf28,
  v22 := Tryz.zeroValue28,
  i3 := by kernel_rfl }
theorem Tryz_cp25 {l r : List Int} {B : Nat} {A : Nat → Prop} {w : World} {L : List Ob} {i : Nat} {v : Value} (hH : Hp B A w L) (hi : L[i]? = some (obS (α := Int) 3 v l)) (hB : B ≤ w.heap.size) (hA : ∀ b, w.heap.size ≤ b → A b) (hr : compactIntsL l = some r) : Ret Tryz.prog 25 #[v] w fun u w' => ∃ v', u = v' ∧ Hp B A w' (L.set i (obS (α := Int) 3 v' r)) ∧ Tr Dw B A w A w' :=
  Hp.compactInts (Dw := Dw) (fun a c w => Go.Proofs.Any.slices_Compact_int_empty Tryz_cp25_lay a c w) (fun blk off cap zs w h1 h2 h3 => Go.Proofs.Any.slices_Compact_int Tryz_cp25_lay blk off cap zs w h1 h2 h3) hH hi hB hA hr

set_option maxRecDepth 4000 in
set_option maxHeartbeats 4000000 in
theorem know_Links_c (w : World) {A : Nat → Prop} (hA : ∀ b, w.heap.size ≤ b → A b) (body : ByteArray) {r : (List Int)} (hm : know_Links body = some r) : Ret Tryz.prog 11 #[.string body] w fun v w' => ∃ s0, v = s0 ∧ Ownd 3 w w' s0 r ∧ Kp Dw w w' := by
  unfold know_Links at hm
  refine enter Tryz.func11 rfl Tryz.ntmps11 rfl ?_
  have hA0 := hA
  have hB := Nat.le_refl w.heap.size
  have hK : Tr Dw w.heap.size A w A w := Tr.refl (Dw := Dw) hA
  have hH : Hp w.heap.size A w [] := Hp.nil
  refine C_seq ?_
  refine C_region ?_
  refine V_y (Y_assign rfl) rfl rfl rfl ?_
  refine V_to (fun _ _ => rfl) ?_
  refine C_seq ?_
  refine C_region ?_
  refine V_y (Y_assign rfl) rfl rfl rfl ?_
  refine V_to (fun _ _ => rfl) ?_
  refine C_seq ?_
  refine C_seq ?_
  refine C_region ?_
  refine V_y (Y_move rfl) rfl rfl rfl ?_
  refine V_y (Y_lenStr rfl Tryz.underlying9 rfl) rfl rfl rfl ?_
  refine V_y (Y_move rfl) rfl rfl rfl ?_
  refine V_to (fun _ _ => rfl) ?_
  replace hH : Hp w.heap.size A w (obS (α := Int) 3 (.slice none 0 0) ([] : (List Int)) :: []) := Hp.addNil (α := Int) (e := 3) hH
  obtain ⟨o1, ho1, hm⟩ := Option.bind_eq_some_iff.1 hm
  refine C_cutG (ι := (((List Int) × Int) × Value × (Nat → Prop))) (fun ⟨s2, v8, A10⟩ => [(3, v8)]) (fun ⟨s2, v8, A10⟩ => fun w' => o1 = .fin s2 ∧ Hp w.heap.size A10 w' (obS (α := Int) 3 v8 s2.1 :: []) ∧ Tr Dw w.heap.size A w A10 w') ?_ ?_
  · refine C_block ?_
    refine C_while ho1 (fun s12 a w' => ∃ i : (Value × (Nat → Prop)), Has ⟨107, [], none⟩ a ([(0, .string body), (3, i.1), (8, .int .i64 (body.size : Int)), (9, .int .i64 s12.2)]) ∧ Hp w.heap.size i.2 w' (obS (α := Int) 3 i.1 s12.1 :: []) ∧ Tr Dw w.heap.size A w i.2 w') (fun a ha => ⟨(.slice none 0 0, A), ha.sub ⟨rfl, rfl, rfl, rfl, trivial⟩, ⟨hH, Tr.refl (Dw := Dw) hA⟩⟩) ?_
    rintro K s12 a w13 ⟨⟨v14, A16⟩, ha100, hH17, hr3⟩ K24
    refine C_of ?_ ha100
    replace hK := Tr.trans (Dw := Dw) hK hr3
    replace hB := Nat.le_trans hB hr3.ex.size
    replace hA := hr3.new
    replace hH : Hp w.heap.size A16 w13 (obS (α := Int) 3 v14 s12.1 :: []) := hH17
    obtain ⟨x18, h19, h20⟩ := K24
    refine C_seq ?_
    refine C_region ?_
    refine V_y (Y_lss rfl rfl) rfl rfl rfl ?_
    refine V_to (fun _ _ => rfl) ?_
    refine C_seq ?_
    refine C_cond rfl (fun hc25 => ?_) (fun hc25 => ?_)
    · rw [if_pos hc25] at h19
      refine C_skip_to (fun _ _ => rfl) ?_
      refine C_seq ?_
      obtain ⟨s27, ho26, h19⟩ := Option.bind_eq_some_iff.1 h19
      refine C_cutG (ι := (Value × (Nat → Prop))) (fun ⟨v29, A34⟩ => [(0, .string body), (3, v29), (8, .int .i64 (body.size : Int)), (9, .int .i64 s12.2)]) (fun ⟨v29, A34⟩ => fun w' => Hp w.heap.size A34 w' (obS (α := Int) 3 v29 s27 :: []) ∧ Tr Dw w.heap.size A16 w13 A34 w') ?_ ?_
      · have hr28 : Tr Dw w.heap.size A16 w13 A16 w13 := Tr.refl (Dw := Dw) hA
        refine C_block ?_
        refine C_seq ?_
        refine C_region ?_
        refine V_y (Y_move rfl) rfl rfl rfl ?_
        refine V_y (Y_assign rfl) rfl rfl rfl ?_
        refine V_to (fun _ _ => rfl) ?_
        refine C_seq ?_
        refine C_seq ?_
        refine C_region ?_
        refine V_y (Y_move rfl) rfl rfl rfl ?_
        refine V_y (Y_move rfl) rfl rfl rfl ?_
        obtain ⟨x36, hx36, ho26⟩ := Option.bind_eq_some_iff.1 ho26
        refine V_y (Y_indexS hx36 Tryz.underlying9 rfl rfl) rfl rfl rfl ?_
        refine V_y (Y_neq rfl rfl) rfl rfl rfl ?_
        refine V_y (Y_move rfl) rfl rfl rfl ?_
        obtain ⟨s38, hs38, ho26⟩ := Option.bind_eq_some_iff.1 ho26
        refine V_cut 24 (fun _ : Unit => [(0, .string body), (3, v14), (4, .int .i64 s12.2), (8, .int .i64 (body.size : Int)), (9, .int .i64 s12.2), (40, .bool s38)]) (fun _ w' => w13 = w') ?_ ?_
        · simp only [List.take, List.drop]
          rcases Bool.eq_false_or_eq_true ((x36.toNat : Int) != 35) with hc37 | hc37
          · rw [if_pos hc37] at hs38
            refine V_gn rfl rfl rfl hc37 rfl rfl rfl ?_
            refine V_gn rfl rfl rfl hc37 rfl rfl rfl ?_
            refine V_gn rfl rfl rfl hc37 rfl rfl rfl ?_
            refine V_gu rfl rfl rfl rfl rfl ?_
            refine V_gu rfl rfl rfl rfl rfl ?_
            refine V_gu rfl rfl rfl rfl rfl ?_
            refine V_gu rfl rfl rfl rfl rfl ?_
            refine V_gu rfl rfl rfl rfl rfl ?_
            refine V_gu rfl rfl rfl rfl rfl ?_
            refine V_gu rfl rfl rfl rfl rfl ?_
            refine V_gu rfl rfl rfl rfl rfl ?_
            refine V_gu rfl rfl rfl rfl rfl ?_
            refine V_gu rfl rfl rfl rfl rfl ?_
            refine V_gu rfl rfl rfl rfl rfl ?_
            refine V_gu rfl rfl rfl rfl rfl ?_
            refine V_gu rfl rfl rfl rfl rfl ?_
            refine V_gu rfl rfl rfl rfl rfl ?_
            refine V_gu rfl rfl rfl rfl rfl ?_
            refine V_gu rfl rfl rfl rfl rfl ?_
            refine V_gu rfl rfl rfl rfl rfl ?_
            refine V_gu rfl rfl rfl rfl rfl ?_
            refine V_gu rfl rfl rfl rfl rfl ?_
            refine V_gn rfl rfl rfl hc37 rfl rfl rfl ?_
            refine V_y (Y_pick_te rfl hc37 rfl) rfl rfl rfl ?_
            obtain rfl := Option.some.inj hs38
            exact V_end fun a ha => ⟨(), ha.sub ⟨rfl, rfl, rfl, rfl, rfl, rfl, trivial⟩, rfl⟩
          · rw [if_neg (nt hc37)] at hs38
            refine V_ge rfl rfl rfl hc37 ?_
            refine V_y (Y_move rfl) rfl rfl rfl ?_
            refine V_ge rfl rfl rfl hc37 ?_
            refine V_y (Y_gtr rfl rfl) rfl rfl rfl ?_
            refine V_ge rfl rfl rfl hc37 ?_
            refine V_y (Y_move rfl) rfl rfl rfl ?_
            obtain ⟨s40, hs40, hs38⟩ := Option.bind_eq_some_iff.1 hs38
            refine V_cut 20 (fun _ : Unit => [(0, .string body), (3, v14), (4, .int .i64 s12.2), (8, .int .i64 (body.size : Int)), (9, .int .i64 s12.2), (16, .bool ((x36.toNat : Int) != 35)), (39, .bool s40)]) (fun _ w' => w13 = w') ?_ ?_
            · simp only [List.take, List.drop]
              rcases Bool.eq_false_or_eq_true (decide ((0 : Int) < s12.2)) with hc39 | hc39
              · rw [if_pos hc39] at hs40
                refine V_ge rfl rfl rfl hc39 ?_
                refine V_y (Y_move rfl) rfl rfl rfl ?_
                refine V_ge rfl rfl rfl hc39 ?_
                refine V_y (Y_move rfl) rfl rfl rfl ?_
                refine V_ge rfl rfl rfl hc39 ?_
                refine V_y (Y_subI rfl rfl) rfl rfl rfl ?_
                refine V_ge rfl rfl rfl hc39 ?_
                obtain ⟨x41, hx41, hs40⟩ := Option.bind_eq_some_iff.1 hs40
                refine V_y (Y_indexS hx41 Tryz.underlying9 rfl rfl) rfl rfl rfl ?_
                refine V_ge rfl rfl rfl hc39 ?_
                refine V_call Tryz.call22 rfl rfl rfl rfl (know_letter_c w13 (x41.toNat : Int)) ?_
                rintro _ _ ⟨rfl, rfl⟩
                refine V_ge rfl rfl rfl hc39 ?_
                refine V_y (Y_move rfl) rfl rfl rfl ?_
                obtain ⟨s43, hs43, hs40⟩ := Option.bind_eq_some_iff.1 hs40
                refine V_cut 6 (fun _ : Unit => [(0, .string body), (3, v14), (4, .int .i64 s12.2), (8, .int .i64 (body.size : Int)), (9, .int .i64 s12.2), (16, .bool ((x36.toNat : Int) != 35)), (19, .bool (decide ((0 : Int) < s12.2))), (31, .bool s43)]) (fun _ w' => w13 = w') ?_ ?_
                · simp only [List.take, List.drop]
                  rcases Bool.eq_false_or_eq_true ((know_letter (x41.toNat : Int))) with hc42 | hc42
                  · rw [if_pos hc42] at hs43
                    refine V_gn rfl rfl rfl hc42 rfl rfl rfl ?_
                    refine V_gn rfl rfl rfl hc42 rfl rfl rfl ?_
                    refine V_gn rfl rfl rfl hc42 rfl rfl rfl ?_
                    refine V_gn rfl rfl rfl hc42 rfl rfl rfl ?_
                    refine V_gn rfl rfl rfl hc42 rfl rfl rfl ?_
                    refine V_ge rfl rfl rfl hc39 ?_
                    refine V_y (Y_pick_te rfl hc42 rfl) rfl rfl rfl ?_
                    obtain rfl := Option.some.inj hs43
                    exact V_end fun a ha => ⟨(), ha.sub ⟨rfl, rfl, rfl, rfl, rfl, rfl, rfl, rfl, trivial⟩, rfl⟩
                  · rw [if_neg (nt hc42)] at hs43
                    refine V_ge rfl rfl rfl hc42 ?_
                    refine V_y (Y_move rfl) rfl rfl rfl ?_
                    refine V_ge rfl rfl rfl hc42 ?_
                    refine V_y (Y_move rfl) rfl rfl rfl ?_
                    refine V_ge rfl rfl rfl hc42 ?_
                    refine V_y (Y_subI rfl rfl) rfl rfl rfl ?_
                    refine V_ge rfl rfl rfl hc42 ?_
                    refine V_y (Y_indexS hx41 Tryz.underlying9 rfl rfl) rfl rfl rfl ?_
                    refine V_ge rfl rfl rfl hc42 ?_
                    refine V_call Tryz.call23 rfl rfl rfl rfl (know_digit_c w13 (x41.toNat : Int)) ?_
                    rintro _ _ ⟨rfl, rfl⟩
                    refine V_ge rfl rfl rfl hc39 ?_
                    refine V_y (Y_pick_fe rfl hc42 rfl) rfl rfl rfl ?_
                    obtain rfl := Option.some.inj hs43
                    exact V_end fun a ha => ⟨(), ha.sub ⟨rfl, rfl, rfl, rfl, rfl, rfl, rfl, rfl, trivial⟩, rfl⟩
                simp only [List.take, List.drop]
                rintro _ _ rfl
                refine V_ge rfl rfl rfl hc39 ?_
                refine V_y (Y_move rfl) rfl rfl rfl ?_
                obtain ⟨s45, hs45, hs40⟩ := Option.bind_eq_some_iff.1 hs40
                refine V_cut 6 (fun _ : Unit => [(0, .string body), (3, v14), (4, .int .i64 s12.2), (8, .int .i64 (body.size : Int)), (9, .int .i64 s12.2), (16, .bool ((x36.toNat : Int) != 35)), (19, .bool (decide ((0 : Int) < s12.2))), (38, .bool s45)]) (fun _ w' => w13 = w') ?_ ?_
                · simp only [List.take, List.drop]
                  rcases Bool.eq_false_or_eq_true (s43) with hc44 | hc44
                  · rw [if_pos hc44] at hs45
                    refine V_gn rfl rfl rfl hc44 rfl rfl rfl ?_
                    refine V_gn rfl rfl rfl hc44 rfl rfl rfl ?_
                    refine V_gn rfl rfl rfl hc44 rfl rfl rfl ?_
                    refine V_gn rfl rfl rfl hc44 rfl rfl rfl ?_
                    refine V_gn rfl rfl rfl hc44 rfl rfl rfl ?_
                    refine V_ge rfl rfl rfl hc39 ?_
                    refine V_y (Y_pick_te rfl hc44 rfl) rfl rfl rfl ?_
                    obtain rfl := Option.some.inj hs45
                    exact V_end fun a ha => ⟨(), ha.sub ⟨rfl, rfl, rfl, rfl, rfl, rfl, rfl, rfl, trivial⟩, rfl⟩
                  · rw [if_neg (nt hc44)] at hs45
                    refine V_ge rfl rfl rfl hc44 ?_
                    refine V_y (Y_move rfl) rfl rfl rfl ?_
                    refine V_ge rfl rfl rfl hc44 ?_
                    refine V_y (Y_move rfl) rfl rfl rfl ?_
                    refine V_ge rfl rfl rfl hc44 ?_
                    refine V_y (Y_subI rfl rfl) rfl rfl rfl ?_
                    refine V_ge rfl rfl rfl hc44 ?_
                    refine V_y (Y_indexS hx41 Tryz.underlying9 rfl rfl) rfl rfl rfl ?_
                    refine V_ge rfl rfl rfl hc44 ?_
                    refine V_y (Y_eql rfl rfl) rfl rfl rfl ?_
                    refine V_ge rfl rfl rfl hc39 ?_
                    refine V_y (Y_pick_fe rfl hc44 rfl) rfl rfl rfl ?_
                    obtain rfl := Option.some.inj hs45
                    exact V_end fun a ha => ⟨(), ha.sub ⟨rfl, rfl, rfl, rfl, rfl, rfl, rfl, rfl, trivial⟩, rfl⟩
                simp only [List.take, List.drop]
                rintro _ _ rfl
                refine V_ge rfl rfl rfl hc37 ?_
                refine V_y (Y_pick_te rfl hc39 rfl) rfl rfl rfl ?_
                obtain rfl := Option.some.inj hs40
                exact V_end fun a ha => ⟨(), ha.sub ⟨rfl, rfl, rfl, rfl, rfl, rfl, rfl, trivial⟩, rfl⟩
              · rw [if_neg (nt hc39)] at hs40
                refine V_gn rfl rfl rfl hc39 rfl rfl rfl ?_
                refine V_gn rfl rfl rfl hc39 rfl rfl rfl ?_
                refine V_gn rfl rfl rfl hc39 rfl rfl rfl ?_
                refine V_gn rfl rfl rfl hc39 rfl rfl rfl ?_
                refine V_gn rfl rfl rfl hc39 rfl rfl rfl ?_
                refine V_gn rfl rfl rfl hc39 rfl rfl rfl ?_
                refine V_gu rfl rfl rfl rfl rfl ?_
                refine V_gu rfl rfl rfl rfl rfl ?_
                refine V_gu rfl rfl rfl rfl rfl ?_
                refine V_gu rfl rfl rfl rfl rfl ?_
                refine V_gu rfl rfl rfl rfl rfl ?_
                refine V_gn rfl rfl rfl hc39 rfl rfl rfl ?_
                refine V_gn rfl rfl rfl hc39 rfl rfl rfl ?_
                refine V_gu rfl rfl rfl rfl rfl ?_
                refine V_gu rfl rfl rfl rfl rfl ?_
                refine V_gu rfl rfl rfl rfl rfl ?_
                refine V_gu rfl rfl rfl rfl rfl ?_
                refine V_gu rfl rfl rfl rfl rfl ?_
                refine V_gn rfl rfl rfl hc39 rfl rfl rfl ?_
                refine V_ge rfl rfl rfl hc37 ?_
                refine V_y (Y_pick_fe rfl hc39 rfl) rfl rfl rfl ?_
                obtain rfl := Option.some.inj hs40
                exact V_end fun a ha => ⟨(), ha.sub ⟨rfl, rfl, rfl, rfl, rfl, rfl, rfl, trivial⟩, rfl⟩
            simp only [List.take, List.drop]
            rintro _ _ rfl
            refine V_y (Y_pick_fe rfl hc37 rfl) rfl rfl rfl ?_
            obtain rfl := Option.some.inj hs38
            exact V_end fun a ha => ⟨(), ha.sub ⟨rfl, rfl, rfl, rfl, rfl, rfl, trivial⟩, rfl⟩
        simp only [List.take, List.drop]
        rintro _ _ rfl
        refine V_to (fun _ _ => rfl) ?_
        refine C_cond rfl (fun hc46 => ?_) (fun hc46 => ?_)
        · rw [if_pos hc46] at ho26
          obtain rfl := Option.some.inj ho26
          refine C_exit (fun a ha47 => ?_)
          exact ⟨(v14, A16), ha47.sub ⟨rfl, rfl, rfl, rfl, trivial⟩, ⟨hH, hr28⟩⟩
        · rw [if_neg (nt hc46)] at ho26
          refine C_skip_to (fun _ _ => rfl) ?_
          refine C_seq ?_
          refine C_region ?_
          refine V_y (Y_move rfl) rfl rfl rfl ?_
          refine V_y (Y_addI rfl rfl) rfl rfl rfl ?_
          refine V_y (Y_assign rfl) rfl rfl rfl ?_
          refine V_y (Y_assign rfl) rfl rfl rfl ?_
          refine V_to (fun _ _ => rfl) ?_
          refine C_seq ?_
          obtain ⟨o48, ho48, ho26⟩ := Option.bind_eq_some_iff.1 ho26
          refine C_cutG (ι := (Int × Int)) (fun (s49 : (Int × Int)) => [(0, .string body), (3, v14), (4, .int .i64 s12.2), (5, .int .i64 s49.1), (6, .int .i64 s49.2), (8, .int .i64 (body.size : Int)), (9, .int .i64 s12.2)]) (fun (s49 : (Int × Int)) => fun w' => o48 = .fin s49 ∧ w13 = w') ?_ ?_
          · refine C_block ?_
            refine C_while ho48 (fun s55 a w' => ∃ i : Unit, Has ⟨107, [], none⟩ a ([(0, .string body), (3, v14), (4, .int .i64 s12.2), (5, .int .i64 s55.1), (6, .int .i64 s55.2), (8, .int .i64 (body.size : Int)), (9, .int .i64 s12.2)]) ∧ w13 = w') (fun a ha => ⟨(), ha.sub ⟨rfl, rfl, rfl, rfl, rfl, rfl, rfl, trivial⟩, rfl⟩) ?_
            rintro K s55 a _ ⟨_, ha73, rfl⟩ K63
            refine C_of ?_ ha73
            obtain ⟨x57, h58, h59⟩ := K63
            refine C_seq ?_
            refine C_seq ?_
            refine C_region ?_
            refine V_y (Y_move rfl) rfl rfl rfl ?_
            refine V_y (Y_move rfl) rfl rfl rfl ?_
            refine V_y (Y_lenStr rfl Tryz.underlying9 rfl) rfl rfl rfl ?_
            refine V_y (Y_lss rfl rfl) rfl rfl rfl ?_
            refine V_y (Y_move rfl) rfl rfl rfl ?_
            obtain ⟨s65, hs65, h58⟩ := Option.bind_eq_some_iff.1 h58
            refine V_cut 5 (fun _ : Unit => [(0, .string body), (3, v14), (4, .int .i64 s12.2), (5, .int .i64 s55.1), (6, .int .i64 s55.2), (8, .int .i64 (body.size : Int)), (9, .int .i64 s12.2), (52, .bool s65)]) (fun _ w' => w13 = w') ?_ ?_
            · simp only [List.take, List.drop]
              rcases Bool.eq_false_or_eq_true (decide (s55.2 < (body.size : Int))) with hc64 | hc64
              · rw [if_pos hc64] at hs65
                refine V_ge rfl rfl rfl hc64 ?_
                refine V_y (Y_move rfl) rfl rfl rfl ?_
                refine V_ge rfl rfl rfl hc64 ?_
                refine V_y (Y_move rfl) rfl rfl rfl ?_
                refine V_ge rfl rfl rfl hc64 ?_
                obtain ⟨x66, hx66, hs65⟩ := Option.bind_eq_some_iff.1 hs65
                refine V_y (Y_indexS hx66 Tryz.underlying9 rfl rfl) rfl rfl rfl ?_
                refine V_ge rfl rfl rfl hc64 ?_
                refine V_call Tryz.call23 rfl rfl rfl rfl (know_digit_c w13 (x66.toNat : Int)) ?_
                rintro _ _ ⟨rfl, rfl⟩
                refine V_y (Y_pick_te rfl hc64 rfl) rfl rfl rfl ?_
                obtain rfl := Option.some.inj hs65
                exact V_end fun a ha => ⟨(), ha.sub ⟨rfl, rfl, rfl, rfl, rfl, rfl, rfl, rfl, trivial⟩, rfl⟩
              · rw [if_neg (nt hc64)] at hs65
                refine V_gn rfl rfl rfl hc64 rfl rfl rfl ?_
                refine V_gn rfl rfl rfl hc64 rfl rfl rfl ?_
                refine V_gn rfl rfl rfl hc64 rfl rfl rfl ?_
                refine V_gn rfl rfl rfl hc64 rfl rfl rfl ?_
                refine V_y (Y_pick_fe rfl hc64 rfl) rfl rfl rfl ?_
                obtain rfl := Option.some.inj hs65
                exact V_end fun a ha => ⟨(), ha.sub ⟨rfl, rfl, rfl, rfl, rfl, rfl, rfl, rfl, trivial⟩, rfl⟩
            simp only [List.take, List.drop]
            rintro _ _ rfl
            refine V_y (Y_move rfl) rfl rfl rfl ?_
            refine V_cut 5 (fun _ : Unit => [(0, .string body), (3, v14), (4, .int .i64 s12.2), (5, .int .i64 s55.1), (6, .int .i64 s55.2), (8, .int .i64 (body.size : Int)), (9, .int .i64 s12.2), (58, .bool (s65 && (decide ((w64 (s55.2 - s12.2)) ≤ 7))))]) (fun _ w' => w13 = w') ?_ ?_
            · simp only [List.take, List.drop]
              rcases Bool.eq_false_or_eq_true (s65) with hc67 | hc67
              · refine V_ge rfl rfl rfl hc67 ?_
                refine V_y (Y_move rfl) rfl rfl rfl ?_
                refine V_ge rfl rfl rfl hc67 ?_
                refine V_y (Y_move rfl) rfl rfl rfl ?_
                refine V_ge rfl rfl rfl hc67 ?_
                refine V_y (Y_subI rfl rfl) rfl rfl rfl ?_
                refine V_ge rfl rfl rfl hc67 ?_
                refine V_y (Y_leq rfl rfl) rfl rfl rfl ?_
                refine V_y (Y_pick_te rfl hc67 rfl) rfl rfl rfl ?_
                exact V_end fun a ha => ⟨(), ha.sub ⟨rfl, rfl, rfl, rfl, rfl, rfl, rfl, (by rw [hc67]; rfl), trivial⟩, rfl⟩
              · refine V_gn rfl rfl rfl hc67 rfl rfl rfl ?_
                refine V_gn rfl rfl rfl hc67 rfl rfl rfl ?_
                refine V_gn rfl rfl rfl hc67 rfl rfl rfl ?_
                refine V_gn rfl rfl rfl hc67 rfl rfl rfl ?_
                refine V_y (Y_pick_fe rfl hc67 rfl) rfl rfl rfl ?_
                exact V_end fun a ha => ⟨(), ha.sub ⟨rfl, rfl, rfl, rfl, rfl, rfl, rfl, (by rw [hc67]; rfl), trivial⟩, rfl⟩
            simp only [List.take, List.drop]
            rintro _ _ rfl
            refine V_to (fun _ _ => rfl) ?_
            refine C_cond rfl (fun hc69 => ?_) (fun hc69 => ?_)
            · rw [if_pos hc69] at h58
              refine C_skip_to (fun _ _ => rfl) ?_
              refine C_block ?_
              refine C_seq ?_
              refine C_region ?_
              refine V_y (Y_move rfl) rfl rfl rfl ?_
              refine V_y (Y_mulI rfl rfl) rfl rfl rfl ?_
              refine V_y (Y_move rfl) rfl rfl rfl ?_
              refine V_y (Y_move rfl) rfl rfl rfl ?_
              obtain ⟨x70, hx70, h58⟩ := Option.bind_eq_some_iff.1 h58
              refine V_y (Y_indexS hx70 Tryz.underlying9 rfl rfl) rfl rfl rfl ?_
              refine V_y (Y_subB rfl rfl) rfl rfl rfl ?_
              refine V_y (Y_convI Tryz.underlying5 Tryz.underlying3 rfl) rfl rfl rfl ?_
              refine V_y (Y_addI rfl rfl) rfl rfl rfl ?_
              refine V_y (Y_assign rfl) rfl rfl rfl ?_
              refine V_to (fun _ _ => rfl) ?_
              refine C_region ?_
              refine V_y (Y_move rfl) rfl rfl rfl ?_
              refine V_y (Y_addI rfl rfl) rfl rfl rfl ?_
              refine V_y (Y_assign rfl) rfl rfl rfl ?_
              obtain rfl := Option.some.inj h58
              refine V_end (fun a ha71 => ?_)
              exact ⟨(w64 ((w64 (10 * s55.1)) + (IntKind.wrap .i64 ((toU8 ((x70.toNat : Int) - 48)).toNat : Int))), w64 (s55.2 + 1)), h59, ⟨(), ha71.sub ⟨rfl, rfl, rfl, rfl, rfl, rfl, rfl, trivial⟩, rfl⟩⟩
            · rw [if_neg (nt hc69)] at h58
              obtain rfl := Option.some.inj h58
              refine C_exit (fun a ha72 => ?_)
              exact ⟨(s55.1, s55.2), ha72.sub ⟨rfl, rfl, rfl, rfl, rfl, rfl, rfl, trivial⟩, ⟨h59.symm, rfl⟩⟩
          rintro s49 _ ⟨rfl, rfl⟩ a ha54
          rw [Lp.andThen_fin] at ho26
          refine C_at (n := ⟨107, [], none⟩) (fun _ _ => rfl) ?_ ha54
          refine C_seq ?_
          refine C_seq ?_
          refine C_region ?_
          refine V_y (Y_move rfl) rfl rfl rfl ?_
          refine V_y (Y_move rfl) rfl rfl rfl ?_
          refine V_y (Y_addI rfl rfl) rfl rfl rfl ?_
          refine V_y (Y_eql rfl rfl) rfl rfl rfl ?_
          refine V_y (Y_move rfl) rfl rfl rfl ?_
          obtain ⟨s75, hs75, ho26⟩ := Option.bind_eq_some_iff.1 ho26
          refine V_cut 6 (fun _ : Unit => [(0, .string body), (3, v14), (5, .int .i64 s49.1), (6, .int .i64 s49.2), (8, .int .i64 (body.size : Int)), (9, .int .i64 s12.2), (79, .bool s75)]) (fun _ w' => w13 = w') ?_ ?_
          · simp only [List.take, List.drop]
            rcases Bool.eq_false_or_eq_true (s49.2 == (w64 (s12.2 + 1))) with hc74 | hc74
            · rw [if_pos hc74] at hs75
              refine V_gn rfl rfl rfl hc74 rfl rfl rfl ?_
              refine V_gn rfl rfl rfl hc74 rfl rfl rfl ?_
              refine V_gn rfl rfl rfl hc74 rfl rfl rfl ?_
              refine V_gn rfl rfl rfl hc74 rfl rfl rfl ?_
              refine V_gn rfl rfl rfl hc74 rfl rfl rfl ?_
              refine V_y (Y_pick_te rfl hc74 rfl) rfl rfl rfl ?_
              obtain rfl := Option.some.inj hs75
              exact V_end fun a ha => ⟨(), ha.sub ⟨rfl, rfl, rfl, rfl, rfl, rfl, rfl, trivial⟩, rfl⟩
            · rw [if_neg (nt hc74)] at hs75
              refine V_ge rfl rfl rfl hc74 ?_
              refine V_y (Y_move rfl) rfl rfl rfl ?_
              refine V_ge rfl rfl rfl hc74 ?_
              refine V_y (Y_move rfl) rfl rfl rfl ?_
              refine V_ge rfl rfl rfl hc74 ?_
              refine V_y (Y_addI rfl rfl) rfl rfl rfl ?_
              refine V_ge rfl rfl rfl hc74 ?_
              obtain ⟨x76, hx76, hs75⟩ := Option.bind_eq_some_iff.1 hs75
              refine V_y (Y_indexS hx76 Tryz.underlying9 rfl rfl) rfl rfl rfl ?_
              refine V_ge rfl rfl rfl hc74 ?_
              refine V_y (Y_eql rfl rfl) rfl rfl rfl ?_
              refine V_y (Y_pick_fe rfl hc74 rfl) rfl rfl rfl ?_
              obtain rfl := Option.some.inj hs75
              exact V_end fun a ha => ⟨(), ha.sub ⟨rfl, rfl, rfl, rfl, rfl, rfl, rfl, trivial⟩, rfl⟩
          simp only [List.take, List.drop]
          rintro _ _ rfl
          refine V_y (Y_move rfl) rfl rfl rfl ?_
          obtain ⟨s78, hs78, ho26⟩ := Option.bind_eq_some_iff.1 ho26
          refine V_cut 17 (fun _ : Unit => [(0, .string body), (3, v14), (5, .int .i64 s49.1), (8, .int .i64 (body.size : Int)), (9, .int .i64 s12.2), (97, .bool s78)]) (fun _ w' => w13 = w') ?_ ?_
          · simp only [List.take, List.drop]
            rcases Bool.eq_false_or_eq_true (s75) with hc77 | hc77
            · rw [if_pos hc77] at hs78
              refine V_gn rfl rfl rfl hc77 rfl rfl rfl ?_
              refine V_gn rfl rfl rfl hc77 rfl rfl rfl ?_
              refine V_gn rfl rfl rfl hc77 rfl rfl rfl ?_
              refine V_gn rfl rfl rfl hc77 rfl rfl rfl ?_
              refine V_gn rfl rfl rfl hc77 rfl rfl rfl ?_
              refine V_gu rfl rfl rfl rfl rfl ?_
              refine V_gu rfl rfl rfl rfl rfl ?_
              refine V_gu rfl rfl rfl rfl rfl ?_
              refine V_gu rfl rfl rfl rfl rfl ?_
              refine V_gu rfl rfl rfl rfl rfl ?_
              refine V_gu rfl rfl rfl rfl rfl ?_
              refine V_gu rfl rfl rfl rfl rfl ?_
              refine V_gu rfl rfl rfl rfl rfl ?_
              refine V_gu rfl rfl rfl rfl rfl ?_
              refine V_gu rfl rfl rfl rfl rfl ?_
              refine V_gn rfl rfl rfl hc77 rfl rfl rfl ?_
              refine V_y (Y_pick_te rfl hc77 rfl) rfl rfl rfl ?_
              obtain rfl := Option.some.inj hs78
              exact V_end fun a ha => ⟨(), ha.sub ⟨rfl, rfl, rfl, rfl, rfl, rfl, trivial⟩, rfl⟩
            · rw [if_neg (nt hc77)] at hs78
              refine V_ge rfl rfl rfl hc77 ?_
              refine V_y (Y_move rfl) rfl rfl rfl ?_
              refine V_ge rfl rfl rfl hc77 ?_
              refine V_y (Y_move rfl) rfl rfl rfl ?_
              refine V_ge rfl rfl rfl hc77 ?_
              refine V_y (Y_lenStr rfl Tryz.underlying9 rfl) rfl rfl rfl ?_
              refine V_ge rfl rfl rfl hc77 ?_
              refine V_y (Y_lss rfl rfl) rfl rfl rfl ?_
              refine V_ge rfl rfl rfl hc77 ?_
              refine V_y (Y_move rfl) rfl rfl rfl ?_
              obtain ⟨s80, hs80, hs78⟩ := Option.bind_eq_some_iff.1 hs78
              refine V_cut 11 (fun _ : Unit => [(0, .string body), (3, v14), (5, .int .i64 s49.1), (8, .int .i64 (body.size : Int)), (9, .int .i64 s12.2), (80, .bool s75), (96, .bool s80)]) (fun _ w' => w13 = w') ?_ ?_
              · simp only [List.take, List.drop]
                rcases Bool.eq_false_or_eq_true (decide (s49.2 < (body.size : Int))) with hc79 | hc79
                · rw [if_pos hc79] at hs80
                  refine V_ge rfl rfl rfl hc79 ?_
                  refine V_y (Y_move rfl) rfl rfl rfl ?_
                  refine V_ge rfl rfl rfl hc79 ?_
                  refine V_y (Y_move rfl) rfl rfl rfl ?_
                  refine V_ge rfl rfl rfl hc79 ?_
                  obtain ⟨x81, hx81, hs80⟩ := Option.bind_eq_some_iff.1 hs80
                  refine V_y (Y_indexS hx81 Tryz.underlying9 rfl rfl) rfl rfl rfl ?_
                  refine V_ge rfl rfl rfl hc79 ?_
                  refine V_call Tryz.call23 rfl rfl rfl rfl (know_digit_c w13 (x81.toNat : Int)) ?_
                  rintro _ _ ⟨rfl, rfl⟩
                  refine V_ge rfl rfl rfl hc79 ?_
                  refine V_y (Y_move rfl) rfl rfl rfl ?_
                  obtain ⟨s83, hs83, hs80⟩ := Option.bind_eq_some_iff.1 hs80
                  refine V_cut 5 (fun _ : Unit => [(0, .string body), (3, v14), (5, .int .i64 s49.1), (8, .int .i64 (body.size : Int)), (9, .int .i64 s12.2), (80, .bool s75), (85, .bool (decide (s49.2 < (body.size : Int)))), (95, .bool s83)]) (fun _ w' => w13 = w') ?_ ?_
                  · simp only [List.take, List.drop]
                    rcases Bool.eq_false_or_eq_true ((know_digit (x81.toNat : Int))) with hc82 | hc82
                    · rw [if_pos hc82] at hs83
                      refine V_gn rfl rfl rfl hc82 rfl rfl rfl ?_
                      refine V_gn rfl rfl rfl hc82 rfl rfl rfl ?_
                      refine V_gn rfl rfl rfl hc82 rfl rfl rfl ?_
                      refine V_gn rfl rfl rfl hc82 rfl rfl rfl ?_
                      refine V_ge rfl rfl rfl hc79 ?_
                      refine V_y (Y_pick_te rfl hc82 rfl) rfl rfl rfl ?_
                      obtain rfl := Option.some.inj hs83
                      exact V_end fun a ha => ⟨(), ha.sub ⟨rfl, rfl, rfl, rfl, rfl, rfl, rfl, rfl, trivial⟩, rfl⟩
                    · rw [if_neg (nt hc82)] at hs83
                      refine V_ge rfl rfl rfl hc82 ?_
                      refine V_y (Y_move rfl) rfl rfl rfl ?_
                      refine V_ge rfl rfl rfl hc82 ?_
                      refine V_y (Y_move rfl) rfl rfl rfl ?_
                      refine V_ge rfl rfl rfl hc82 ?_
                      refine V_y (Y_indexS hx81 Tryz.underlying9 rfl rfl) rfl rfl rfl ?_
                      refine V_ge rfl rfl rfl hc82 ?_
                      refine V_call Tryz.call22 rfl rfl rfl rfl (know_letter_c w13 (x81.toNat : Int)) ?_
                      rintro _ _ ⟨rfl, rfl⟩
                      refine V_ge rfl rfl rfl hc79 ?_
                      refine V_y (Y_pick_fe rfl hc82 rfl) rfl rfl rfl ?_
                      obtain rfl := Option.some.inj hs83
                      exact V_end fun a ha => ⟨(), ha.sub ⟨rfl, rfl, rfl, rfl, rfl, rfl, rfl, rfl, trivial⟩, rfl⟩
                  simp only [List.take, List.drop]
                  rintro _ _ rfl
                  refine V_ge rfl rfl rfl hc77 ?_
                  refine V_y (Y_pick_te rfl hc79 rfl) rfl rfl rfl ?_
                  obtain rfl := Option.some.inj hs80
                  exact V_end fun a ha => ⟨(), ha.sub ⟨rfl, rfl, rfl, rfl, rfl, rfl, rfl, trivial⟩, rfl⟩
                · rw [if_neg (nt hc79)] at hs80
                  refine V_gn rfl rfl rfl hc79 rfl rfl rfl ?_
                  refine V_gn rfl rfl rfl hc79 rfl rfl rfl ?_
                  refine V_gn rfl rfl rfl hc79 rfl rfl rfl ?_
                  refine V_gn rfl rfl rfl hc79 rfl rfl rfl ?_
                  refine V_gn rfl rfl rfl hc79 rfl rfl rfl ?_
                  refine V_gu rfl rfl rfl rfl rfl ?_
                  refine V_gu rfl rfl rfl rfl rfl ?_
                  refine V_gu rfl rfl rfl rfl rfl ?_
                  refine V_gu rfl rfl rfl rfl rfl ?_
                  refine V_gn rfl rfl rfl hc79 rfl rfl rfl ?_
                  refine V_ge rfl rfl rfl hc77 ?_
                  refine V_y (Y_pick_fe rfl hc79 rfl) rfl rfl rfl ?_
                  obtain rfl := Option.some.inj hs80
                  exact V_end fun a ha => ⟨(), ha.sub ⟨rfl, rfl, rfl, rfl, rfl, rfl, rfl, trivial⟩, rfl⟩
              simp only [List.take, List.drop]
              rintro _ _ rfl
              refine V_y (Y_pick_fe rfl hc77 rfl) rfl rfl rfl ?_
              obtain rfl := Option.some.inj hs78
              exact V_end fun a ha => ⟨(), ha.sub ⟨rfl, rfl, rfl, rfl, rfl, rfl, trivial⟩, rfl⟩
          simp only [List.take, List.drop]
          rintro _ _ rfl
          refine V_to (fun _ _ => rfl) ?_
          refine C_cond rfl (fun hc84 => ?_) (fun hc84 => ?_)
          · rw [if_pos hc84] at ho26
            obtain rfl := Option.some.inj ho26
            refine C_exit (fun a ha85 => ?_)
            exact ⟨(v14, A16), ha85.sub ⟨rfl, rfl, rfl, rfl, trivial⟩, ⟨hH, hr28⟩⟩
          · rw [if_neg (nt hc84)] at ho26
            refine C_skip_to (fun _ _ => rfl) ?_
            refine C_region ?_
            refine V_y (Y_move rfl) rfl rfl rfl ?_
            refine V_y (Y_move rfl) rfl rfl rfl ?_
            refine V_buildSlice (Dw := Dw) (l := ([s49.1] : List Int)) (len := 1) Tryz.underlying28 Tryz.sizeOf3 Tryz.zeroValue3 rfl (by with_unfolding_all rfl) (show (1 * 1 : Nat) ≠ 0 by decide) (show (1 * 1 : Nat) ≤ 2 ^ 24 by decide) hA ⟨[.int .i64 s49.1], _, rfl, rfl, rfl⟩ rfl rfl ?_
            intro v86 w87 hk89 h88
            have ht90 := Kp.tr (Dw := Dw) hk89 hA hB
            replace hH := Hp.kp (Dw := Dw) hH hk89
            replace hK := Tr.trans (Dw := Dw) hK ht90
            replace hr3 := Tr.trans (Dw := Dw) hr3 ht90
            replace hr28 := Tr.trans (Dw := Dw) hr28 ht90
            replace hB := Nat.le_trans hB ht90.ex.size
            replace hA := ht90.new
            obtain ⟨x91, hx91, ho26⟩ := Option.bind_eq_some_iff.1 ho26
            refine V_appendH (Dw := Dw) (e := 3) (v := v14) (l := s12.1) (ti := Tryz.t3) (bytes := 8) (lim := 17592186044416) hH (i := 0) rfl h88 hx91 Tryz.underlying28 Tryz_info3 rfl rfl rfl rfl (by decide) (by decide) (by decide) hB hA rfl rfl rfl ?_
            intro v92 w93 A94 hH95 ht96
            replace h88 := Sl.tr (Dw := Dw) h88 ht96
            replace hK := Tr.trans (Dw := Dw) hK ht96
            replace hr3 := Tr.trans (Dw := Dw) hr3 ht96
            replace hr28 := Tr.trans (Dw := Dw) hr28 ht96
            replace hB := Nat.le_trans hB ht96.ex.size
            replace hA := ht96.new
            replace hH : Hp w.heap.size A94 w93 (obS (α := Int) 3 v92 x91 :: []) := hH95
            refine V_y (Y_assign rfl) rfl rfl rfl ?_
            obtain rfl := Option.some.inj ho26
            refine V_end (fun a ha97 => ?_)
            exact ⟨(v92, A94), ha97.sub ⟨rfl, rfl, rfl, rfl, trivial⟩, ⟨hH, hr28⟩⟩
      rintro ⟨v29, A34⟩ w31 ⟨hH35, hk32⟩ a ha33
      replace hK := Tr.trans (Dw := Dw) hK hk32
      replace hr3 := Tr.trans (Dw := Dw) hr3 hk32
      replace hB := Nat.le_trans hB hk32.ex.size
      replace hA := hk32.new
      replace hH : Hp w.heap.size A34 w31 (obS (α := Int) 3 v29 s27 :: []) := hH35
      refine C_at (n := ⟨107, [], none⟩) (fun _ _ => rfl) ?_ ha33
      refine C_region ?_
      refine V_y (Y_addI rfl rfl) rfl rfl rfl ?_
      refine V_y (Y_move rfl) rfl rfl rfl ?_
      obtain rfl := Option.some.inj h19
      refine V_end (fun a ha98 => ?_)
      exact ⟨(s27, w64 (s12.2 + 1)), h20, ⟨(v29, A34), ha98.sub ⟨rfl, rfl, rfl, rfl, trivial⟩, ⟨hH, hr3⟩⟩⟩
    · rw [if_neg (nt hc25)] at h19
      obtain rfl := Option.some.inj h19
      refine C_exit (fun a ha99 => ?_)
      exact ⟨((s12.1, s12.2), v14, A16), ha99.sub ⟨rfl, trivial⟩, ⟨h20.symm, hH, hr3⟩⟩
  rintro ⟨s2, v8, A10⟩ w5 ⟨rfl, hH11, hk6⟩ a ha7
  rw [Lp.andThen_fin] at hm
  replace hK := Tr.trans (Dw := Dw) hK hk6
  replace hB := Nat.le_trans hB hk6.ex.size
  replace hA := hk6.new
  replace hH : Hp w.heap.size A10 w5 (obS (α := Int) 3 v8 s2.1 :: []) := hH11
  refine C_at (n := ⟨107, [], none⟩) (fun _ _ => rfl) ?_ ha7
  refine C_seq ?_
  refine C_region ?_
  refine V_y (Y_move rfl) rfl rfl rfl ?_
  obtain ⟨x101, hx101, hm⟩ := Option.bind_eq_some_iff.1 hm
  refine V_call Tryz.call24 rfl rfl rfl rfl (Tryz_sortInts (Dw := Dw) hH (i := 0) rfl hB hA hx101) ?_
  rintro _ w102 ⟨rfl, hH103, ht104⟩
  replace hK := Tr.trans (Dw := Dw) hK ht104
  replace hB := Nat.le_trans hB ht104.ex.size
  replace hA := ht104.new
  replace hH : Hp w.heap.size A10 w102 (obS (α := Int) 3 v8 x101 :: []) := hH103
  refine V_to (fun _ _ => rfl) ?_
  refine C_seq ?_
  refine C_region ?_
  refine V_y (Y_move rfl) rfl rfl rfl ?_
  obtain ⟨x105, hx105, hm⟩ := Option.bind_eq_some_iff.1 hm
  refine V_call Tryz.call25 rfl rfl rfl rfl (Tryz_cp25 (Dw := Dw) hH (i := 0) rfl hB hA hx105) ?_
  rintro v109 w106 ⟨_, rfl, hH107, ht108⟩
  replace hK := Tr.trans (Dw := Dw) hK ht108
  replace hB := Nat.le_trans hB ht108.ex.size
  replace hA := ht108.new
  replace hH : Hp w.heap.size A10 w106 (obS (α := Int) 3 v109 x105 :: []) := hH107
  refine V_y (Y_assign rfl) rfl rfl rfl ?_
  refine V_to (fun _ _ => rfl) ?_
  obtain rfl := Option.some.inj hm
  refine C_ret ?_
  try simp only [↓inBlock_ret, ↓then_ret]
  exact retQ rfl (Res.one Tryz.results11 rfl) ⟨v109, rfl, (Hp.ownd hH (i := 0) rfl), hK.kp⟩

set_option maxRecDepth 4000 in
set_option maxHeartbeats 4000000 in
theorem know_inWord_c (w : World) (c : Int) : Ret Tryz.prog 20 #[.int .u8 c] w fun v w' => v = .bool (know_inWord c) ∧ w = w' := by
  generalize hm : know_inWord c = r
  unfold know_inWord at hm
  refine enter Tryz.func20 rfl Tryz.ntmps20 rfl ?_
  refine C_seq ?_
  refine C_region ?_
  refine V_y (Y_assign rfl) rfl rfl rfl ?_
  refine V_to (fun _ _ => rfl) ?_
  refine C_seq ?_
  refine C_region ?_
  refine V_y (Y_move rfl) rfl rfl rfl ?_
  refine V_call Tryz.call22 rfl rfl rfl rfl (know_letter_c w c) ?_
  rintro _ _ ⟨rfl, rfl⟩
  refine V_y (Y_move rfl) rfl rfl rfl ?_
  refine V_cut 3 (fun _ : Unit => [(0, .int .u8 c), (8, .bool ((know_letter c) || (know_digit c)))]) (fun _ w' => w = w') ?_ ?_
  · simp only [List.take, List.drop]
    rcases Bool.eq_false_or_eq_true ((know_letter c)) with hc1 | hc1
    · refine V_gn rfl rfl rfl hc1 rfl rfl rfl ?_
      refine V_gn rfl rfl rfl hc1 rfl rfl rfl ?_
      refine V_y (Y_pick_te rfl hc1 rfl) rfl rfl rfl ?_
      exact V_end fun a ha => ⟨(), ha.sub ⟨rfl, (by rw [hc1]; rfl), trivial⟩, rfl⟩
    · refine V_ge rfl rfl rfl hc1 ?_
      refine V_y (Y_move rfl) rfl rfl rfl ?_
      refine V_ge rfl rfl rfl hc1 ?_
      refine V_call Tryz.call23 rfl rfl rfl rfl (know_digit_c w c) ?_
      rintro _ _ ⟨rfl, rfl⟩
      refine V_y (Y_pick_fe rfl hc1 rfl) rfl rfl rfl ?_
      exact V_end fun a ha => ⟨(), ha.sub ⟨rfl, (by rw [hc1]; rfl), trivial⟩, rfl⟩
  simp only [List.take, List.drop]
  rintro _ _ rfl
  refine V_y (Y_move rfl) rfl rfl rfl ?_
  refine V_cut 3 (fun _ : Unit => [(12, .bool (((know_letter c) || (know_digit c)) || (decide ((128 : Int) ≤ c))))]) (fun _ w' => w = w') ?_ ?_
  · simp only [List.take, List.drop]
    rcases Bool.eq_false_or_eq_true (((know_letter c) || (know_digit c))) with hc3 | hc3
    · refine V_gn rfl rfl rfl hc3 rfl rfl rfl ?_
      refine V_gn rfl rfl rfl hc3 rfl rfl rfl ?_
      refine V_y (Y_pick_te rfl hc3 rfl) rfl rfl rfl ?_
      exact V_end fun a ha => ⟨(), ha.sub ⟨(by rw [hc3]; rfl), trivial⟩, rfl⟩
    · refine V_ge rfl rfl rfl hc3 ?_
      refine V_y (Y_move rfl) rfl rfl rfl ?_
      refine V_ge rfl rfl rfl hc3 ?_
      refine V_y (Y_geq rfl rfl) rfl rfl rfl ?_
      refine V_y (Y_pick_fe rfl hc3 rfl) rfl rfl rfl ?_
      exact V_end fun a ha => ⟨(), ha.sub ⟨(by rw [hc3]; rfl), trivial⟩, rfl⟩
  simp only [List.take, List.drop]
  rintro _ _ rfl
  refine V_y (Y_assign rfl) rfl rfl rfl ?_
  refine V_to (fun _ _ => rfl) ?_
  obtain rfl := hm
  refine C_ret ?_
  try simp only [↓inBlock_ret, ↓then_ret]
  exact retQ rfl (Res.one Tryz.results20 rfl) ⟨rfl, rfl⟩

set_option maxRecDepth 4000 in
set_option maxHeartbeats 4000000 in
theorem know_lower_c (w : World) {A : Nat → Prop} (hA : ∀ b, w.heap.size ≤ b → A b) (s : ByteArray) {r : ByteArray} (hm : know_lower s = some r) : Ret Tryz.prog 21 #[.string s] w fun v w' => v = .string r ∧ Kp Dw w w' := by
  unfold know_lower at hm
  refine enter Tryz.func21 rfl Tryz.ntmps21 rfl ?_
  have hA0 := hA
  have hB := Nat.le_refl w.heap.size
  have hK : Tr Dw w.heap.size A w A w := Tr.refl (Dw := Dw) hA
  have hH : Hp w.heap.size A w [] := Hp.nil
  refine C_seq ?_
  refine C_region ?_
  refine V_y (Y_assign rfl) rfl rfl rfl ?_
  refine V_to (fun _ _ => rfl) ?_
  refine C_seq ?_
  refine C_region ?_
  refine V_y (Y_move rfl) rfl rfl rfl ?_
  obtain ⟨x1, hx1, hm⟩ := Option.bind_eq_some_iff.1 hm
  refine V_convU (Dw := Dw) (e := 5) hH hx1 Tryz.underlying9 Tryz.underlying42 Tryz.underlying5 hB hA rfl rfl ?_
  intro v2 w3 A4 hH5 ht6
  replace hK := Tr.trans (Dw := Dw) hK ht6
  replace hB := Nat.le_trans hB ht6.ex.size
  replace hA := ht6.new
  replace hH : Hp w.heap.size A4 w3 (obU 5 v2 x1 :: []) := hH5
  refine V_y (Y_assign rfl) rfl rfl rfl ?_
  refine V_to (fun _ _ => rfl) ?_
  refine C_seq ?_
  refine C_seq ?_
  refine C_region ?_
  refine V_y (Y_move rfl) rfl rfl rfl ?_
  refine V_y (Y_lenSl (Hp.anyU (e := 5) (v := v2) (l := x1) hH (i := 0) rfl) rfl Tryz.underlying42 rfl) rfl rfl rfl ?_
  refine V_y (Y_move rfl) rfl rfl rfl ?_
  refine V_to (fun _ _ => rfl) ?_
  have hn31 := Hp.leU (e := 5) (v := v2) (l := x1) hH (i := 0) rfl
  obtain ⟨o7, ho7, hm⟩ := Option.bind_eq_some_iff.1 hm
  refine C_cutG (ι := ((List UInt8) × Value × (Nat → Prop))) (fun ⟨s8, v14, A16⟩ => [(3, v14)]) (fun ⟨s8, v14, A16⟩ => fun w' => o7 = .fin s8 ∧ Hp w.heap.size A16 w' (obU 5 v14 s8 :: []) ∧ Tr Dw w.heap.size A4 w3 A16 w') ?_ ?_
  · refine C_block ?_
    refine C_range ho7 (fun k10 s18 a w' => ∃ i : (Value × (Nat → Prop)), Has ⟨30, [], none⟩ a ([(3, i.1), (8, i.1), (9, .int .i64 (x1.length : Int)), (10, .int .i64 (k10 : Int))]) ∧ Hp w.heap.size i.2 w' (obU 5 i.1 s18 :: []) ∧ Tr Dw w.heap.size A4 w3 i.2 w') (fun a ha => ⟨(v2, A4), ha.sub ⟨rfl, rfl, rfl, rfl, trivial⟩, ⟨hH, Tr.refl (Dw := Dw) hA⟩⟩) ?_
    rintro K k10 s18 a w19 ⟨⟨v20, A22⟩, ha74, hH23, hr9⟩ hle27 K30 h29
    refine C_of ?_ ha74
    replace hK := Tr.trans (Dw := Dw) hK hr9
    replace hB := Nat.le_trans hB hr9.ex.size
    replace hA := hr9.new
    replace hH : Hp w.heap.size A22 w19 (obU 5 v20 s18 :: []) := hH23
    refine C_seq (C_region (V_y (Y_lss rfl rfl) rfl rfl rfl (V_to (fun _ _ => rfl) ?_)))
    refine C_seq ?_
    refine C_cond rfl (fun hc32 => ?_) (fun hc32 => ?_)
    · have hlt28 := lt_of_dec hc32
      obtain ⟨x24, h25, h26⟩ := K30 hlt28
      refine C_skip_to (fun _ _ => rfl) ?_
      refine C_seq ?_
      obtain ⟨s34, ho33, h25⟩ := Option.bind_eq_some_iff.1 h25
      refine C_cutG (ι := (Value × (Nat → Prop))) (fun ⟨v36, A41⟩ => [(3, v36), (8, v36), (9, .int .i64 (x1.length : Int)), (10, .int .i64 (k10 : Int))]) (fun ⟨v36, A41⟩ => fun w' => Hp w.heap.size A41 w' (obU 5 v36 s34 :: []) ∧ Tr Dw w.heap.size A22 w19 A41 w') ?_ ?_
      · have hr35 : Tr Dw w.heap.size A22 w19 A22 w19 := Tr.refl (Dw := Dw) hA
        refine C_block ?_
        refine C_seq ?_
        refine C_region ?_
        refine V_y (Y_move rfl) rfl rfl rfl ?_
        obtain ⟨x43, hx43, ho33⟩ := Option.bind_eq_some_iff.1 ho33
        refine V_indexAddrU (e := 5) (v := v20) (l := s18) hH (i := 0) rfl hx43 Tryz.underlying42 Tryz.sizeOf5 rfl rfl rfl ?_
        intro b44 o45 h46 hl47
        refine V_y (Y_load (El.u8 h46) Tryz.isAgg5 rfl) rfl rfl rfl ?_
        refine V_y (Y_assign rfl) rfl rfl rfl ?_
        refine V_y (Y_assign rfl) rfl rfl rfl ?_
        refine V_to (fun _ _ => rfl) ?_
        refine C_seq ?_
        refine C_region ?_
        refine V_y (Y_move rfl) rfl rfl rfl ?_
        refine V_y (Y_geq rfl rfl) rfl rfl rfl ?_
        refine V_y (Y_move rfl) rfl rfl rfl ?_
        refine V_cut 3 (fun _ : Unit => [(3, v20), (4, .int .i64 (k10 : Int)), (5, .int .u8 (x43.toNat : Int)), (8, v20), (9, .int .i64 (x1.length : Int)), (10, .int .i64 (k10 : Int)), (20, .bool ((decide ((65 : Int) ≤ (x43.toNat : Int))) && (decide ((x43.toNat : Int) ≤ 90))))]) (fun _ w' => w19 = w') ?_ ?_
        · simp only [List.take, List.drop]
          rcases Bool.eq_false_or_eq_true (decide ((65 : Int) ≤ (x43.toNat : Int))) with hc48 | hc48
          · refine V_ge rfl rfl rfl hc48 ?_
            refine V_y (Y_move rfl) rfl rfl rfl ?_
            refine V_ge rfl rfl rfl hc48 ?_
            refine V_y (Y_leq rfl rfl) rfl rfl rfl ?_
            refine V_y (Y_pick_te rfl hc48 rfl) rfl rfl rfl ?_
            exact V_end fun a ha => ⟨(), ha.sub ⟨rfl, rfl, rfl, rfl, rfl, rfl, (by rw [hc48]; rfl), trivial⟩, rfl⟩
          · refine V_gn rfl rfl rfl hc48 rfl rfl rfl ?_
            refine V_gn rfl rfl rfl hc48 rfl rfl rfl ?_
            refine V_y (Y_pick_fe rfl hc48 rfl) rfl rfl rfl ?_
            exact V_end fun a ha => ⟨(), ha.sub ⟨rfl, rfl, rfl, rfl, rfl, rfl, (by rw [hc48]; rfl), trivial⟩, rfl⟩
        simp only [List.take, List.drop]
        rintro _ _ rfl
        refine V_to (fun _ _ => rfl) ?_
        obtain ⟨s51, ho50, ho33⟩ := Option.bind_eq_some_iff.1 ho33
        refine C_cutG (ι := (Value × (Nat → Prop))) (fun ⟨v53, A58⟩ => [(3, v53), (8, v53), (9, .int .i64 (x1.length : Int)), (10, .int .i64 (k10 : Int))]) (fun ⟨v53, A58⟩ => fun w' => Hp w.heap.size A58 w' (obU 5 v53 s51 :: []) ∧ Tr Dw w.heap.size A22 w19 A58 w') ?_ ?_
        · have hr52 : Tr Dw w.heap.size A22 w19 A22 w19 := Tr.refl (Dw := Dw) hA
          refine C_cond rfl (fun hc60 => ?_) (fun hc60 => ?_)
          · rw [if_pos hc60] at ho50
            refine C_region ?_
            refine V_y (Y_move rfl) rfl rfl rfl ?_
            refine V_y (Y_move rfl) rfl rfl rfl ?_
            refine V_y (Y_move rfl) rfl rfl rfl ?_
            refine V_y (Y_addB rfl rfl) rfl rfl rfl ?_
            refine V_y (Y_subB rfl rfl) rfl rfl rfl ?_
            refine V_indexAddrU (e := 5) (v := v20) (l := s18) hH (i := 0) rfl hx43 Tryz.underlying42 Tryz.sizeOf5 rfl rfl rfl ?_
            intro b61 o62 h63 hl64
            obtain ⟨x65, hx65, ho50⟩ := Option.bind_eq_some_iff.1 ho50
            refine V_storeU (Dw := Dw) (e := 5) (v := v20) (l := s18) hH (i := 0) rfl hl64 hx65 rfl Tryz.sizeOf5 rfl hB hA rfl rfl ?_
            intro w66 hH67 ht68
            replace hK := Tr.trans (Dw := Dw) hK ht68
            replace hr9 := Tr.trans (Dw := Dw) hr9 ht68
            replace hr35 := Tr.trans (Dw := Dw) hr35 ht68
            replace hr52 := Tr.trans (Dw := Dw) hr52 ht68
            replace hB := Nat.le_trans hB ht68.ex.size
            replace hA := ht68.new
            replace hH : Hp w.heap.size A22 w66 (obU 5 v20 x65 :: []) := hH67
            obtain rfl := Option.some.inj ho50
            refine V_end (fun a ha69 => ?_)
            exact ⟨(v20, A22), ha69.sub ⟨rfl, rfl, rfl, rfl, trivial⟩, ⟨hH, hr52⟩⟩
          · rw [if_neg (nt hc60)] at ho50
            obtain rfl := Option.some.inj ho50
            refine C_skip (fun a ha70 => ?_)
            exact ⟨(v20, A22), ha70.sub ⟨rfl, rfl, rfl, rfl, trivial⟩, ⟨hH, hr52⟩⟩
        rintro ⟨v53, A58⟩ w55 ⟨hH59, hk56⟩ a ha57
        replace hK := Tr.trans (Dw := Dw) hK hk56
        replace hr9 := Tr.trans (Dw := Dw) hr9 hk56
        replace hr35 := Tr.trans (Dw := Dw) hr35 hk56
        replace hB := Nat.le_trans hB hk56.ex.size
        replace hA := hk56.new
        replace hH : Hp w.heap.size A58 w55 (obU 5 v53 s51 :: []) := hH59
        obtain rfl := Option.some.inj ho33
        exact ⟨(v53, A58), ha57.sub ⟨rfl, rfl, rfl, rfl, trivial⟩, ⟨hH, hr35⟩⟩
      rintro ⟨v36, A41⟩ w38 ⟨hH42, hk39⟩ a ha40
      replace hK := Tr.trans (Dw := Dw) hK hk39
      replace hr9 := Tr.trans (Dw := Dw) hr9 hk39
      replace hB := Nat.le_trans hB hk39.ex.size
      replace hA := hk39.new
      replace hH : Hp w.heap.size A41 w38 (obU 5 v36 s34 :: []) := hH42
      refine C_at (n := ⟨30, [], none⟩) (fun _ _ => rfl) ?_ ha40
      refine C_region ?_
      refine V_y (Y_addI rfl rfl) rfl rfl rfl ?_
      refine V_y (Y_move rfl) rfl rfl rfl ?_
      obtain rfl := Option.some.inj h25
      refine V_end (fun a ha72 => ?_)
      exact ⟨s34, hlt28, h26, ⟨(v36, A41), ha72.sub ⟨rfl, rfl, rfl, (congrArg (fun z => some (Value.int .i64 z)) (w64_succ hlt28 hn31)), trivial⟩, ⟨hH, hr9⟩⟩⟩
    · refine C_exit (fun a ha73 => ?_)
      exact ⟨(s18, v20, A22), ha73.sub ⟨rfl, trivial⟩, ⟨(h29 (eq_of_dec hle27 hc32)).symm, hH, hr9⟩⟩
  rintro ⟨s8, v14, A16⟩ w11 ⟨rfl, hH17, hk12⟩ a ha13
  rw [Lp.andThen_fin] at hm
  replace hK := Tr.trans (Dw := Dw) hK hk12
  replace hB := Nat.le_trans hB hk12.ex.size
  replace hA := hk12.new
  replace hH : Hp w.heap.size A16 w11 (obU 5 v14 s8 :: []) := hH17
  refine C_at (n := ⟨30, [], none⟩) (fun _ _ => rfl) ?_ ha13
  refine C_seq ?_
  refine C_region ?_
  refine V_y (Y_move rfl) rfl rfl rfl ?_
  obtain ⟨A75, ht76, h77, hH78⟩ := Hp.freezeU (Dw := Dw) (v := v14) (l := s8) hH (i := 0) rfl hA
  replace hK := Tr.trans (Dw := Dw) hK ht76
  replace hB := Nat.le_trans hB ht76.ex.size
  replace hA := ht76.new
  replace hH : Hp w.heap.size A75 w11 ([]) := hH78
  refine V_y (Y_convBS (l := s8) h77 Tryz.underlying42 Tryz.underlying5 Tryz.underlying9 rfl) rfl rfl rfl ?_
  refine V_y (Y_assign rfl) rfl rfl rfl ?_
  refine V_to (fun _ _ => rfl) ?_
  obtain rfl := Option.some.inj hm
  refine C_ret ?_
  try simp only [↓inBlock_ret, ↓then_ret]
  exact retQ rfl (Res.one Tryz.results21 rfl) ⟨rfl, hK.kp⟩

set_option maxRecDepth 4000 in
set_option maxHeartbeats 4000000 in
theorem know_Words_c (w : World) {A : Nat → Prop} (hA : ∀ b, w.heap.size ≤ b → A b) (s : ByteArray) {r : (List ByteArray)} (hm : know_Words s = some r) : Ret Tryz.prog 9 #[.string s] w fun v w' => ∃ s0, v = s0 ∧ Ownd 9 w w' s0 r ∧ Kp Dw w w' := by
  unfold know_Words at hm
  refine enter Tryz.func9 rfl Tryz.ntmps9 rfl ?_
  have hA0 := hA
  have hB := Nat.le_refl w.heap.size
  have hK : Tr Dw w.heap.size A w A w := Tr.refl (Dw := Dw) hA
  have hH : Hp w.heap.size A w [] := Hp.nil
  refine C_seq ?_
  refine C_region ?_
  refine V_y (Y_assign rfl) rfl rfl rfl ?_
  refine V_to (fun _ _ => rfl) ?_
  refine C_seq ?_
  refine C_region ?_
  refine V_y (Y_assign rfl) rfl rfl rfl ?_
  refine V_to (fun _ _ => rfl) ?_
  refine C_seq ?_
  refine C_seq ?_
  refine C_region ?_
  refine V_y (Y_assign rfl) rfl rfl rfl ?_
  refine V_to (fun _ _ => rfl) ?_
  replace hH : Hp w.heap.size A w (obS (α := ByteArray) 9 (.slice none 0 0) ([] : (List ByteArray)) :: []) := Hp.addNil (α := ByteArray) (e := 9) hH
  obtain ⟨o1, ho1, hm⟩ := Option.bind_eq_some_iff.1 hm
  refine C_cutG (ι := (((List ByteArray) × Int) × Value × (Nat → Prop))) (fun ⟨s2, v8, A10⟩ => [(3, v8)]) (fun ⟨s2, v8, A10⟩ => fun w' => o1 = .fin s2 ∧ Hp w.heap.size A10 w' (obS (α := ByteArray) 9 v8 s2.1 :: []) ∧ Tr Dw w.heap.size A w A10 w') ?_ ?_
  · refine C_block ?_
    refine C_while ho1 (fun s12 a w' => ∃ i : (Value × (Nat → Prop)), Has ⟨44, [], none⟩ a ([(0, .string s), (3, i.1), (4, .int .i64 s12.2)]) ∧ Hp w.heap.size i.2 w' (obS (α := ByteArray) 9 i.1 s12.1 :: []) ∧ Tr Dw w.heap.size A w i.2 w') (fun a ha => ⟨(.slice none 0 0, A), ha.sub ⟨rfl, rfl, rfl, trivial⟩, ⟨hH, Tr.refl (Dw := Dw) hA⟩⟩) ?_
    rintro K s12 a w13 ⟨⟨v14, A16⟩, ha83, hH17, hr3⟩ K24
    refine C_of ?_ ha83
    replace hK := Tr.trans (Dw := Dw) hK hr3
    replace hB := Nat.le_trans hB hr3.ex.size
    replace hA := hr3.new
    replace hH : Hp w.heap.size A16 w13 (obS (α := ByteArray) 9 v14 s12.1 :: []) := hH17
    obtain ⟨x18, h19, h20⟩ := K24
    refine C_seq ?_
    refine C_seq ?_
    refine C_region ?_
    refine V_y (Y_move rfl) rfl rfl rfl ?_
    refine V_y (Y_move rfl) rfl rfl rfl ?_
    refine V_y (Y_lenStr rfl Tryz.underlying9 rfl) rfl rfl rfl ?_
    refine V_y (Y_lss rfl rfl) rfl rfl rfl ?_
    refine V_to (fun _ _ => rfl) ?_
    refine C_cond rfl (fun hc25 => ?_) (fun hc25 => ?_)
    · rw [if_pos hc25] at h19
      refine C_skip_to (fun _ _ => rfl) ?_
      refine C_seq ?_
      refine C_block ?_
      refine C_seq ?_
      refine C_region ?_
      refine V_y (Y_move rfl) rfl rfl rfl ?_
      refine V_y (Y_assign rfl) rfl rfl rfl ?_
      refine V_to (fun _ _ => rfl) ?_
      refine C_seq ?_
      obtain ⟨o26, ho26, h19⟩ := Option.bind_eq_some_iff.1 h19
      refine C_cutG (ι := Int) (fun (s27 : Int) => [(0, .string s), (3, v14), (4, .int .i64 s12.2), (5, .int .i64 s27)]) (fun (s27 : Int) => fun w' => o26 = .fin s27 ∧ w13 = w') ?_ ?_
      · refine C_block ?_
        refine C_while ho26 (fun s33 a w' => ∃ i : Unit, Has ⟨44, [], none⟩ a ([(0, .string s), (3, v14), (4, .int .i64 s12.2), (5, .int .i64 s33)]) ∧ w13 = w') (fun a ha => ⟨(), ha.sub ⟨rfl, rfl, rfl, rfl, trivial⟩, rfl⟩) ?_
        rintro K s33 a _ ⟨_, ha48, rfl⟩ K41
        refine C_of ?_ ha48
        obtain ⟨x35, h36, h37⟩ := K41
        refine C_seq ?_
        refine C_seq ?_
        refine C_region ?_
        refine V_y (Y_move rfl) rfl rfl rfl ?_
        refine V_y (Y_move rfl) rfl rfl rfl ?_
        refine V_y (Y_lenStr rfl Tryz.underlying9 rfl) rfl rfl rfl ?_
        refine V_y (Y_lss rfl rfl) rfl rfl rfl ?_
        refine V_y (Y_move rfl) rfl rfl rfl ?_
        obtain ⟨s43, hs43, h36⟩ := Option.bind_eq_some_iff.1 h36
        refine V_cut 5 (fun _ : Unit => [(0, .string s), (3, v14), (4, .int .i64 s12.2), (5, .int .i64 s33), (22, .bool s43)]) (fun _ w' => w13 = w') ?_ ?_
        · simp only [List.take, List.drop]
          rcases Bool.eq_false_or_eq_true (decide (s33 < (s.size : Int))) with hc42 | hc42
          · rw [if_pos hc42] at hs43
            refine V_ge rfl rfl rfl hc42 ?_
            refine V_y (Y_move rfl) rfl rfl rfl ?_
            refine V_ge rfl rfl rfl hc42 ?_
            refine V_y (Y_move rfl) rfl rfl rfl ?_
            refine V_ge rfl rfl rfl hc42 ?_
            obtain ⟨x44, hx44, hs43⟩ := Option.bind_eq_some_iff.1 hs43
            refine V_y (Y_indexS hx44 Tryz.underlying9 rfl rfl) rfl rfl rfl ?_
            refine V_ge rfl rfl rfl hc42 ?_
            refine V_call Tryz.call20 rfl rfl rfl rfl (know_inWord_c w13 (x44.toNat : Int)) ?_
            rintro _ _ ⟨rfl, rfl⟩
            refine V_y (Y_pick_te rfl hc42 rfl) rfl rfl rfl ?_
            obtain rfl := Option.some.inj hs43
            exact V_end fun a ha => ⟨(), ha.sub ⟨rfl, rfl, rfl, rfl, rfl, trivial⟩, rfl⟩
          · rw [if_neg (nt hc42)] at hs43
            refine V_gn rfl rfl rfl hc42 rfl rfl rfl ?_
            refine V_gn rfl rfl rfl hc42 rfl rfl rfl ?_
            refine V_gn rfl rfl rfl hc42 rfl rfl rfl ?_
            refine V_gn rfl rfl rfl hc42 rfl rfl rfl ?_
            refine V_y (Y_pick_fe rfl hc42 rfl) rfl rfl rfl ?_
            obtain rfl := Option.some.inj hs43
            exact V_end fun a ha => ⟨(), ha.sub ⟨rfl, rfl, rfl, rfl, rfl, trivial⟩, rfl⟩
        simp only [List.take, List.drop]
        rintro _ _ rfl
        refine V_to (fun _ _ => rfl) ?_
        refine C_cond rfl (fun hc45 => ?_) (fun hc45 => ?_)
        · rw [if_pos hc45] at h36
          refine C_skip_to (fun _ _ => rfl) ?_
          refine C_block ?_
          refine C_region ?_
          refine V_y (Y_move rfl) rfl rfl rfl ?_
          refine V_y (Y_addI rfl rfl) rfl rfl rfl ?_
          refine V_y (Y_assign rfl) rfl rfl rfl ?_
          obtain rfl := Option.some.inj h36
          refine V_end (fun a ha46 => ?_)
          exact ⟨w64 (s33 + 1), h37, ⟨(), ha46.sub ⟨rfl, rfl, rfl, rfl, trivial⟩, rfl⟩⟩
        · rw [if_neg (nt hc45)] at h36
          obtain rfl := Option.some.inj h36
          refine C_exit (fun a ha47 => ?_)
          exact ⟨s33, ha47.sub ⟨rfl, rfl, rfl, rfl, trivial⟩, ⟨h37.symm, rfl⟩⟩
      rintro s27 _ ⟨rfl, rfl⟩ a ha32
      rw [Lp.andThen_fin] at h19
      refine C_at (n := ⟨44, [], none⟩) (fun _ _ => rfl) ?_ ha32
      refine C_seq ?_
      refine C_seq ?_
      refine C_region ?_
      refine V_y (Y_move rfl) rfl rfl rfl ?_
      refine V_y (Y_move rfl) rfl rfl rfl ?_
      refine V_y (Y_gtr rfl rfl) rfl rfl rfl ?_
      refine V_y (Y_move rfl) rfl rfl rfl ?_
      refine V_cut 5 (fun _ : Unit => [(0, .string s), (3, v14), (4, .int .i64 s12.2), (5, .int .i64 s27), (33, .bool ((decide (s12.2 < s27)) && (decide ((w64 (s27 - s12.2)) ≤ 30))))]) (fun _ w' => w13 = w') ?_ ?_
      · simp only [List.take, List.drop]
        rcases Bool.eq_false_or_eq_true (decide (s12.2 < s27)) with hc49 | hc49
        · refine V_ge rfl rfl rfl hc49 ?_
          refine V_y (Y_move rfl) rfl rfl rfl ?_
          refine V_ge rfl rfl rfl hc49 ?_
          refine V_y (Y_move rfl) rfl rfl rfl ?_
          refine V_ge rfl rfl rfl hc49 ?_
          refine V_y (Y_subI rfl rfl) rfl rfl rfl ?_
          refine V_ge rfl rfl rfl hc49 ?_
          refine V_y (Y_leq rfl rfl) rfl rfl rfl ?_
          refine V_y (Y_pick_te rfl hc49 rfl) rfl rfl rfl ?_
          exact V_end fun a ha => ⟨(), ha.sub ⟨rfl, rfl, rfl, rfl, (by rw [hc49]; rfl), trivial⟩, rfl⟩
        · refine V_gn rfl rfl rfl hc49 rfl rfl rfl ?_
          refine V_gn rfl rfl rfl hc49 rfl rfl rfl ?_
          refine V_gn rfl rfl rfl hc49 rfl rfl rfl ?_
          refine V_gn rfl rfl rfl hc49 rfl rfl rfl ?_
          refine V_y (Y_pick_fe rfl hc49 rfl) rfl rfl rfl ?_
          exact V_end fun a ha => ⟨(), ha.sub ⟨rfl, rfl, rfl, rfl, (by rw [hc49]; rfl), trivial⟩, rfl⟩
      simp only [List.take, List.drop]
      rintro _ _ rfl
      refine V_to (fun _ _ => rfl) ?_
      obtain ⟨s52, ho51, h19⟩ := Option.bind_eq_some_iff.1 h19
      refine C_cutG (ι := (Value × (Nat → Prop))) (fun ⟨v54, A59⟩ => [(0, .string s), (3, v54), (5, .int .i64 s27)]) (fun ⟨v54, A59⟩ => fun w' => Hp w.heap.size A59 w' (obS (α := ByteArray) 9 v54 s52 :: []) ∧ Tr Dw w.heap.size A16 w13 A59 w') ?_ ?_
      · have hr53 : Tr Dw w.heap.size A16 w13 A16 w13 := Tr.refl (Dw := Dw) hA
        refine C_cond rfl (fun hc61 => ?_) (fun hc61 => ?_)
        · rw [if_pos hc61] at ho51
          refine C_region ?_
          refine V_y (Y_move rfl) rfl rfl rfl ?_
          refine V_y (Y_move rfl) rfl rfl rfl ?_
          refine V_y (Y_move rfl) rfl rfl rfl ?_
          refine V_y (Y_move rfl) rfl rfl rfl ?_
          obtain ⟨x62, hx62, ho51⟩ := Option.bind_eq_some_iff.1 ho51
          refine V_y (Y_sliceSLH hx62 Tryz.underlying9 rfl rfl rfl) rfl rfl rfl ?_
          obtain ⟨x63, hx63, ho51⟩ := Option.bind_eq_some_iff.1 ho51
          refine V_call Tryz.call21 rfl rfl rfl rfl (know_lower_c (Dw := Dw) w13 hA x62 hx63) ?_
          rintro _ w65 ⟨rfl, hk66⟩
          have ht67 := Kp.tr (Dw := Dw) hk66 hA hB
          replace hH := Hp.kp (Dw := Dw) hH hk66
          replace hK := Tr.trans (Dw := Dw) hK ht67
          replace hr3 := Tr.trans (Dw := Dw) hr3 ht67
          replace hr53 := Tr.trans (Dw := Dw) hr53 ht67
          replace hB := Nat.le_trans hB ht67.ex.size
          replace hA := ht67.new
          refine V_buildSlice (Dw := Dw) (l := ([x63] : List ByteArray)) (len := 1) Tryz.underlying22 Tryz.sizeOf9 Tryz.zeroValue9 rfl (by with_unfolding_all rfl) (show (1 * 1 : Nat) ≠ 0 by decide) (show (1 * 1 : Nat) ≤ 2 ^ 24 by decide) hA ⟨[.string x63], _, rfl, rfl, rfl⟩ rfl rfl ?_
          intro v68 w69 hk71 h70
          have ht72 := Kp.tr (Dw := Dw) hk71 hA hB
          replace hH := Hp.kp (Dw := Dw) hH hk71
          replace hK := Tr.trans (Dw := Dw) hK ht72
          replace hr3 := Tr.trans (Dw := Dw) hr3 ht72
          replace hr53 := Tr.trans (Dw := Dw) hr53 ht72
          replace hB := Nat.le_trans hB ht72.ex.size
          replace hA := ht72.new
          obtain ⟨x73, hx73, ho51⟩ := Option.bind_eq_some_iff.1 ho51
          refine V_appendH (Dw := Dw) (e := 9) (v := v14) (l := s12.1) (ti := Tryz.t9) (bytes := 16) (lim := 8796093022208) hH (i := 0) rfl h70 hx73 Tryz.underlying22 Tryz_info9 rfl rfl rfl rfl (by decide) (by decide) (by decide) hB hA rfl rfl rfl ?_
          intro v74 w75 A76 hH77 ht78
          replace h70 := Sl.tr (Dw := Dw) h70 ht78
          replace hK := Tr.trans (Dw := Dw) hK ht78
          replace hr3 := Tr.trans (Dw := Dw) hr3 ht78
          replace hr53 := Tr.trans (Dw := Dw) hr53 ht78
          replace hB := Nat.le_trans hB ht78.ex.size
          replace hA := ht78.new
          replace hH : Hp w.heap.size A76 w75 (obS (α := ByteArray) 9 v74 x73 :: []) := hH77
          refine V_y (Y_assign rfl) rfl rfl rfl ?_
          obtain rfl := Option.some.inj ho51
          refine V_end (fun a ha79 => ?_)
          exact ⟨(v74, A76), ha79.sub ⟨rfl, rfl, rfl, trivial⟩, ⟨hH, hr53⟩⟩
        · rw [if_neg (nt hc61)] at ho51
          obtain rfl := Option.some.inj ho51
          refine C_skip (fun a ha80 => ?_)
          exact ⟨(v14, A16), ha80.sub ⟨rfl, rfl, rfl, trivial⟩, ⟨hH, hr53⟩⟩
      rintro ⟨v54, A59⟩ w56 ⟨hH60, hk57⟩ a ha58
      replace hK := Tr.trans (Dw := Dw) hK hk57
      replace hr3 := Tr.trans (Dw := Dw) hr3 hk57
      replace hB := Nat.le_trans hB hk57.ex.size
      replace hA := hk57.new
      replace hH : Hp w.heap.size A59 w56 (obS (α := ByteArray) 9 v54 s52 :: []) := hH60
      refine C_at (n := ⟨44, [], none⟩) (fun _ _ => rfl) ?_ ha58
      refine C_region ?_
      refine V_y (Y_move rfl) rfl rfl rfl ?_
      refine V_y (Y_assign rfl) rfl rfl rfl ?_
      refine V_to (fun _ _ => rfl) ?_
      refine C_region ?_
      refine V_y (Y_move rfl) rfl rfl rfl ?_
      refine V_y (Y_addI rfl rfl) rfl rfl rfl ?_
      refine V_y (Y_assign rfl) rfl rfl rfl ?_
      obtain rfl := Option.some.inj h19
      refine V_end (fun a ha81 => ?_)
      exact ⟨(s52, w64 (s27 + 1)), h20, ⟨(v54, A59), ha81.sub ⟨rfl, rfl, rfl, trivial⟩, ⟨hH, hr3⟩⟩⟩
    · rw [if_neg (nt hc25)] at h19
      obtain rfl := Option.some.inj h19
      refine C_exit (fun a ha82 => ?_)
      exact ⟨((s12.1, s12.2), v14, A16), ha82.sub ⟨rfl, trivial⟩, ⟨h20.symm, hH, hr3⟩⟩
  rintro ⟨s2, v8, A10⟩ w5 ⟨rfl, hH11, hk6⟩ a ha7
  rw [Lp.andThen_fin] at hm
  replace hK := Tr.trans (Dw := Dw) hK hk6
  replace hB := Nat.le_trans hB hk6.ex.size
  replace hA := hk6.new
  replace hH : Hp w.heap.size A10 w5 (obS (α := ByteArray) 9 v8 s2.1 :: []) := hH11
  refine C_at (n := ⟨44, [], none⟩) (fun _ _ => rfl) ?_ ha7
  refine C_seq ?_
  refine C_region ?_
  refine V_y (Y_move rfl) rfl rfl rfl ?_
  refine V_y (Y_assign rfl) rfl rfl rfl ?_
  refine V_to (fun _ _ => rfl) ?_
  obtain rfl := Option.some.inj hm
  refine C_ret ?_
  try simp only [↓inBlock_ret, ↓then_ret]
  exact retQ rfl (Res.one Tryz.results9 rfl) ⟨v8, rfl, (Hp.ownd hH (i := 0) rfl), hK.kp⟩

end Go.Proofs.YtebhdihfjeiadaaGreatDoor.W
