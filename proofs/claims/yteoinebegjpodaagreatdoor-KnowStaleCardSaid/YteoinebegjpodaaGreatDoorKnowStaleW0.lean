/-
  Written by program (gen.py) from the IR of the dump: each function computes its model.
-/
import Derived.Test.YteoinebegjpodaaGreatDoorProg
import Derived.Test.YteoinebegjpodaaGreatDoorGe
import Derived.Test.YteoinebegjpodaaGreatDoorKnowStaleM
import Derived.KernelRfl
import Derived.Shelf.Strconv.AtoiAll
import Derived.Lib.AtoiErrMem
import Derived.Shelf.Strings.Replace
import Derived.Shelf.Strings.Split
import Derived.Test.YteoinebegjpodaaGreatDoorGi
import Derived.Test.YteoinebegjpodaaGreatDoorHc
import Derived.Test.YteoinebegjpodaaGreatDoorHa
import Derived.Test.YteoinebegjpodaaGreatDoorHm
import Derived.Test.YteoinebegjpodaaGreatDoorGg
import Derived.Test.YteoinebegjpodaaGreatDoorHi
import Derived.Test.YteoinebegjpodaaGreatDoorGv
import Derived.Test.YteoinebegjpodaaGreatDoorHf
import Derived.Shelf.Slices.CompactI
import Derived.Test.YteoinebegjpodaaGreatDoorGz
import Derived.Shelf.Sort.Plain
import Derived.Shelf.Slices.In.SortNone
namespace Go.Proofs.YteoinebegjpodaaGreatDoor.W
open Go Go.RowKit Go.Pu Go.Gw Go.Proofs Go.Proofs.YteoinebegjpodaaGreatDoor.M
set_option linter.unusedVariables false
set_option linter.unusedSimpArgs false
variable {Dw : Prop}

def Tryz_FR : (Nat → Prop) → World → Prop := fun A w => Mx Tryz.prog 2 A w ∧ Er Tryz.prog 0 A w ∧ Er Tryz.prog 1 A w
instance : Keeps Tryz_FR := ⟨fun h hh hs => ⟨Keeps.to (R := Mx Tryz.prog 2) ((h).1) hh hs, Keeps.to (R := Er Tryz.prog 0) ((h).2.1) hh hs, Keeps.to (R := Er Tryz.prog 1) ((h).2.2) hh hs⟩⟩
theorem Tryz_info3 : Tryz.prog.info? 3 = some Tryz.t3 := by kernel_rfl
theorem Tryz_info38 : Tryz.prog.info? 38 = some Tryz.t38 := by kernel_rfl
theorem Tryz_info40 : Tryz.prog.info? 40 = some Tryz.t40 := by kernel_rfl
theorem Tryz_places38 : ∀ fs, Tryz.prog.underlying 38 = some (.struct fs) → ∀ w : World, (Array.mapM (fun (f : Field) => do pure (f.offset, ← Go.sizeOf f.type)) fs).run Tryz.prog w = .ok #[(0, 1), (1, 1), (2, 1)] w := by
  intro fs h w
  rw [Tryz.underlying38] at h
  cases h
  kernel_rfl
def Tryz_so_ren : Go.Shelf.Ren := ⟨fun | 125 => 32 | 128 => 49 | 129 => 50 | 189 => 23 | 215 => 65 | 216 => 46 | 257 => 31 | 294 => 40 | 295 => 41 | 296 => 42 | 297 => 43 | 298 => 44 | 299 => 45 | 300 => 47 | 301 => 48 | 328 => 60 | 329 => 61 | 330 => 62 | 331 => 63 | 332 => 64 | 343 => 78 | n => n, fun | 0 => 0 | 1 => 1 | 2 => 2 | 3 => 3 | 4 => 4 | 5 => 5 | 6 => 6 | 7 => 7 | 8 => 8 | 9 => 9 | 10 => 10 | 11 => 11 | 12 => 12 | 13 => 13 | 14 => 14 | 15 => 15 | 16 => 16 | 17 => 17 | 18 => 18 | 19 => 19 | 20 => 20 | 21 => 21 | 27 => 99 | 28 => 23 | 31 => 57 | 34 => 27 | 35 => 50 | 37 => 85 | 40 => 82 | 41 => 49 | 46 => 62 | 47 => 61 | 51 => 78 | 52 => 77 | 53 => 80 | 54 => 79 | 55 => 120 | 61 => 66 | 65 => 83 | 66 => 64 | 68 => 58 | 69 => 109 | 70 => 100 | 71 => 101 | 72 => 102 | 73 => 103 | 74 => 53 | 75 => 54 | 76 => 55 | 77 => 56 | 80 => 106 | 81 => 151 | 83 => 113 | 84 => 134 | 85 => 86 | 86 => 87 | 103 => 119 | 104 => 63 | 105 => 104 | 106 => 105 | 108 => 112 | 111 => 35 | 112 => 73 | 113 => 91 | 114 => 129 | 119 => 130 | 127 => 121 | 128 => 65 | 131 => 75 | 134 => 60 | 137 => 131 | 138 => 132 | 139 => 133 | 143 => 123 | 144 => 124 | 145 => 125 | 146 => 135 | 150 => 114 | 151 => 136 | 155 => 118 | 164 => 126 | 165 => 127 | 166 => 128 | 167 => 84 | 168 => 88 | 169 => 89 | 170 => 90 | 171 => 137 | 172 => 138 | 173 => 139 | 174 => 140 | 175 => 107 | 176 => 108 | 181 => 68 | 182 => 69 | 183 => 70 | 184 => 71 | 185 => 72 | 186 => 74 | 187 => 76 | 209 => 110 | 210 => 111 | 211 => 141 | 212 => 142 | 213 => 143 | 214 => 122 | 218 => 92 | 219 => 93 | 220 => 94 | 221 => 95 | 222 => 96 | 223 => 97 | 228 => 115 | 229 => 116 | 230 => 117 | 232 => 144 | 233 => 145 | 238 => 146 | 239 => 147 | 240 => 148 | 241 => 149 | 242 => 150 | 243 => 152 | 244 => 153 | 245 => 154 | 246 => 155 | 247 => 156 | 248 => 157 | 249 => 158 | n => n, fun | 1 => 2 | 3 => 3 | 4 => 4 | 15 => 0 | 16 => 1 | 17 => 5 | 18 => 6 | 19 => 7 | n => n⟩
theorem Tryz_so : Go.Proofs.Lays.n189 Tryz.prog Tryz_so_ren := {
  mixed := by kernel_rfl,
  f125 := Tryz.func32.trans (congrArg some (by kernel_rfl)),
  f128 := Tryz.func49.trans (congrArg some (by kernel_rfl)),
  f129 := Tryz.func50.trans (congrArg some (by kernel_rfl)),
  f189 := Tryz.func23.trans (congrArg some (by kernel_rfl)),
  f215 := Tryz.func65.trans (congrArg some (by kernel_rfl)),
  f216 := Tryz.func46.trans (congrArg some (by kernel_rfl)),
  f257 := Tryz.func31.trans (congrArg some (by kernel_rfl)),
  f294 := Tryz.func40.trans (congrArg some (by kernel_rfl)),
  f295 := Tryz.func41.trans (congrArg some (by kernel_rfl)),
  f296 := Tryz.func42.trans (congrArg some (by kernel_rfl)),
  f297 := Tryz.func43.trans (congrArg some (by kernel_rfl)),
  f298 := Tryz.func44.trans (congrArg some (by kernel_rfl)),
  f299 := Tryz.func45.trans (congrArg some (by kernel_rfl)),
  f300 := Tryz.func47.trans (congrArg some (by kernel_rfl)),
  f301 := Tryz.func48.trans (congrArg some (by kernel_rfl)),
  f328 := Tryz.func60.trans (congrArg some (by kernel_rfl)),
  f329 := Tryz.func61.trans (congrArg some (by kernel_rfl)),
  f330 := Tryz.func62.trans (congrArg some (by kernel_rfl)),
  f331 := Tryz.func63.trans (congrArg some (by kernel_rfl)),
  f332 := Tryz.func64.trans (congrArg some (by kernel_rfl)),
  f343 := Tryz.func78.trans (congrArg some (by kernel_rfl)),
  t0 := Tryz.underlying0,
  a0 := Tryz.isAgg0,
  z0 := Tryz.sizeOf0,
  v0 := Tryz.zeroValue0,
  t3 := Tryz.underlying3,
  a3 := Tryz.isAgg3,
  z3 := Tryz.sizeOf3,
  v3 := Tryz.zeroValue3,
  t4 := Tryz.underlying4,
  a4 := Tryz.isAgg4,
  z4 := Tryz.sizeOf4,
  v4 := Tryz.zeroValue4,
  t5 := Tryz.underlying5,
  a5 := Tryz.isAgg5,
  z5 := Tryz.sizeOf5,
  v5 := Tryz.zeroValue5,
  t9 := Tryz.underlying9,
  a9 := Tryz.isAgg9,
  z9 := Tryz.sizeOf9,
  v9 := Tryz.zeroValue9,
  t28 := Tryz.underlying23,
  a28 := Tryz.isAgg23,
  z28 := Tryz.sizeOf23,
  v28 := Tryz.zeroValue23,
  t46 := Tryz.underlying62,
  a46 := Tryz.isAgg62,
  z46 := Tryz.sizeOf62,
  v46 := Tryz.zeroValue62,
  t51 := Tryz.underlying78,
  a51 := Tryz.isAgg78,
  z51 := Tryz.sizeOf78,
  v51 := Tryz.zeroValue78,
  t53 := Tryz.underlying80,
  a53 := Tryz.isAgg80,
  z53 := Tryz.sizeOf80,
  v53 := Tryz.zeroValue80,
  t131 := Tryz.underlying75,
  a131 := Tryz.isAgg75,
  z131 := Tryz.sizeOf75,
  v131 := Tryz.zeroValue75,
  t182 := Tryz.underlying69,
  a182 := Tryz.isAgg69,
  z182 := Tryz.sizeOf69,
  v182 := Tryz.zeroValue69,
  t183 := Tryz.underlying70,
  a183 := Tryz.isAgg70,
  z183 := Tryz.sizeOf70,
  v183 := Tryz.zeroValue70,
  t218 := Tryz.underlying92,
  a218 := Tryz.isAgg92,
  z218 := Tryz.sizeOf92,
  v218 := Tryz.zeroValue92,
  t222 := Tryz.underlying96,
  a222 := Tryz.isAgg96,
  z222 := Tryz.sizeOf96,
  v222 := Tryz.zeroValue96,
  t228 := Tryz.underlying115,
  a228 := Tryz.isAgg115,
  z228 := Tryz.sizeOf115,
  v228 := Tryz.zeroValue115,
  t229 := Tryz.underlying116,
  a229 := Tryz.isAgg116,
  z229 := Tryz.sizeOf116,
  v229 := Tryz.zeroValue116 }
theorem Tryz_sortInts {B : Nat} {A : Nat → Prop} {w : World} {L : List Ob} {i : Nat} {e : TypeId} {v : Value} {l r : List Int} (hH : Hp B A w L) (hi : L[i]? = some (obS (α := Int) e v l)) (hB : B ≤ w.heap.size) (hA : ∀ b, w.heap.size ≤ b → A b) (hr : sortIntsL l = some r) : Ret Tryz.prog 23 #[v] w fun u w' => u = .tuple #[] ∧ Hp B A w' (L.set i (obS e v r)) ∧ Tr Dw B A w A w' :=
  Hp.sortInts (Dw := Dw) (fun w => Go.Proofs.Any.slices_Sort_int_none Tryz_so none 0 w) (fun blk off cap zs w h1 h2 h3 => Go.Proofs.Any.slices_Sort_int Tryz_so blk off cap zs w h1 h2 h3) hH hi hB hA hr
theorem Tryz_mixed : Tryz.prog.follows .mixedOrders = true := by kernel_rfl

instance : GoT know_Version := GoT.of (β := Int × ByteArray × ByteArray) fun x => (x.at_, x.title, x.body)

instance : Flat know_Version := ⟨fun {A w A1 w1 cs x} h => Flat.flat (α := Int × ByteArray × ByteArray) (x := (x.at_, x.title, x.body)) (A := A) (w := w) h⟩

theorem El_know_Version_ {A : Nat → Prop} {w : World} {b off : Nat} {x : know_Version} (h : El A w b off x) : El (α := Int × ByteArray × ByteArray) A w b off (x.at_, x.title, x.body) := h

theorem El_know_Version_0 {A : Nat → Prop} {w : World} {b off : Nat} {x : know_Version} (h : El A w b off x) : El A w b (off + 0) x.at_ := El.fst (El_know_Version_ h)

theorem El_know_Version_1 {A : Nat → Prop} {w : World} {b off : Nat} {x : know_Version} (h : El A w b off x) : El A w b (off + 1) x.title := El.fst (El.snd (El_know_Version_ h))

theorem El_know_Version_2 {A : Nat → Prop} {w : World} {b off : Nat} {x : know_Version} (h : El A w b off x) : El A w b (off + 2) x.body := El.snd (El.snd (El_know_Version_ h))

theorem El_know_Version {A : Nat → Prop} {w : World} {b off : Nat} {x : know_Version} (h : El A w b off x) : At w b off [.int .i64 x.at_, .string x.title, .string x.body] ∧ True := by
  obtain ⟨h1, h2, cs, h3, h4⟩ := h
  obtain ⟨_, _, rfl, rfl, ⟨_, _, rfl, rfl, rfl⟩⟩ := h3
  exact ⟨h4, trivial⟩

instance : GoT know_Article := GoT.of (β := Int × Int × (List know_Version)) fun x => (x.id_, x.group, x.versions)

theorem El_know_Article_ {A : Nat → Prop} {w : World} {b off : Nat} {x : know_Article} (h : El A w b off x) : El (α := Int × Int × (List know_Version)) A w b off (x.id_, x.group, x.versions) := h

theorem El_know_Article_0 {A : Nat → Prop} {w : World} {b off : Nat} {x : know_Article} (h : El A w b off x) : El A w b (off + 0) x.id_ := El.fst (El_know_Article_ h)

theorem El_know_Article_1 {A : Nat → Prop} {w : World} {b off : Nat} {x : know_Article} (h : El A w b off x) : El A w b (off + 1) x.group := El.fst (El.snd (El_know_Article_ h))

theorem El_know_Article_2 {A : Nat → Prop} {w : World} {b off : Nat} {x : know_Article} (h : El A w b off x) : El A w b (off + 2) x.versions := El.snd (El.snd (El_know_Article_ h))

theorem El_know_Article {A : Nat → Prop} {w : World} {b off : Nat} {x : know_Article} (h : El A w b off x) : ∃ v1, At w b off [.int .i64 x.id_, .int .i64 x.group, v1] ∧ Sl A w v1 x.versions := by
  obtain ⟨h1, h2, cs, h3, h4⟩ := h
  obtain ⟨_, _, rfl, rfl, ⟨_, _, rfl, rfl, ⟨u1, rfl, g1⟩⟩⟩ := h3
  exact ⟨u1, h4, g1⟩

instance : GoT know_Entry := GoT.of (β := Int × ByteArray × ByteArray) fun x => (x.id_, x.title, x.body)

instance : Flat know_Entry := ⟨fun {A w A1 w1 cs x} h => Flat.flat (α := Int × ByteArray × ByteArray) (x := (x.id_, x.title, x.body)) (A := A) (w := w) h⟩

theorem El_know_Entry_ {A : Nat → Prop} {w : World} {b off : Nat} {x : know_Entry} (h : El A w b off x) : El (α := Int × ByteArray × ByteArray) A w b off (x.id_, x.title, x.body) := h

theorem El_know_Entry_0 {A : Nat → Prop} {w : World} {b off : Nat} {x : know_Entry} (h : El A w b off x) : El A w b (off + 0) x.id_ := El.fst (El_know_Entry_ h)

theorem El_know_Entry_1 {A : Nat → Prop} {w : World} {b off : Nat} {x : know_Entry} (h : El A w b off x) : El A w b (off + 1) x.title := El.fst (El.snd (El_know_Entry_ h))

theorem El_know_Entry_2 {A : Nat → Prop} {w : World} {b off : Nat} {x : know_Entry} (h : El A w b off x) : El A w b (off + 2) x.body := El.snd (El.snd (El_know_Entry_ h))

theorem El_know_Entry {A : Nat → Prop} {w : World} {b off : Nat} {x : know_Entry} (h : El A w b off x) : At w b off [.int .i64 x.id_, .string x.title, .string x.body] ∧ True := by
  obtain ⟨h1, h2, cs, h3, h4⟩ := h
  obtain ⟨_, _, rfl, rfl, ⟨_, _, rfl, rfl, rfl⟩⟩ := h3
  exact ⟨h4, trivial⟩

def Tryz_contains_lay_ren : Go.Shelf.Ren := ⟨fun | 15 => 66 | 17 => 51 | 20 => 79 | n => n, fun | 0 => 0 | 1 => 1 | 2 => 2 | 3 => 3 | 4 => 4 | 5 => 5 | 6 => 6 | 7 => 7 | 8 => 8 | 9 => 9 | 10 => 10 | 11 => 11 | 12 => 12 | 13 => 13 | 14 => 14 | 15 => 15 | 16 => 16 | 17 => 17 | 18 => 18 | 19 => 19 | 20 => 20 | 21 => 21 | 23 => 82 | 24 => 109 | 26 => 98 | 27 => 119 | 28 => 81 | 30 => 118 | 31 => 104 | 32 => 105 | 33 => 49 | 34 => 130 | 35 => 62 | 36 => 131 | 37 => 132 | 38 => 133 | 39 => 106 | 40 => 146 | 41 => 147 | 42 => 148 | 43 => 149 | 44 => 150 | 45 => 151 | 46 => 78 | 47 => 152 | 48 => 153 | 49 => 154 | 50 => 121 | 51 => 155 | 52 => 156 | 53 => 157 | 54 => 158 | 55 => 126 | n => n, fun | 0 => 3 | 1 => 4 | n => n⟩
theorem Tryz_contains_lay : Go.Proofs.LaysGw.n17 Tryz.prog Tryz_contains_lay_ren := {
  mixed := by kernel_rfl,
  f15 := Tryz.func66.trans (congrArg some (by kernel_rfl)),
  f17 := Tryz.func51.trans (congrArg some (by kernel_rfl)),
  f20 := Tryz.func79.trans (congrArg some (by kernel_rfl)),
  t0 := Tryz.underlying0,
  a0 := Tryz.isAgg0,
  z0 := Tryz.sizeOf0,
  v0 := Tryz.zeroValue0,
  i0 := by kernel_rfl,
  t3 := Tryz.underlying3,
  a3 := Tryz.isAgg3,
  z3 := Tryz.sizeOf3,
  v3 := Tryz.zeroValue3,
  i3 := by kernel_rfl,
  t4 := Tryz.underlying4,
  a4 := Tryz.isAgg4,
  z4 := Tryz.sizeOf4,
  v4 := Tryz.zeroValue4,
  i4 := by kernel_rfl,
  t9 := Tryz.underlying9,
  a9 := Tryz.isAgg9,
  z9 := Tryz.sizeOf9,
  v9 := Tryz.zeroValue9,
  i9 := by kernel_rfl,
  t21 := Tryz.underlying21,
  a21 := Tryz.isAgg21,
  z21 := Tryz.sizeOf21,
  v21 := Tryz.zeroValue21,
  i21 := by kernel_rfl,
  t23 := Tryz.underlying82,
  a23 := Tryz.isAgg82,
  z23 := Tryz.sizeOf82,
  v23 := Tryz.zeroValue82,
  i23 := by kernel_rfl }

set_option maxRecDepth 4000 in
set_option maxHeartbeats 4000000 in
theorem know_within_c (w : World) (n : Int) (low : Int) (high : Int) : Ret Tryz.prog 8 #[.int .i64 n, .int .i64 low, .int .i64 high] w fun v w' => v = .bool (know_within n low high) ∧ w = w' := by
  generalize hm : know_within n low high = r
  unfold know_within at hm
  refine enter Tryz.func8 rfl Tryz.ntmps8 rfl ?_
  refine C_seq ?_
  refine C_region ?_
  refine V_y (Y_assign rfl) rfl rfl rfl ?_
  refine V_to (fun _ _ => rfl) ?_
  refine C_seq ?_
  refine C_region ?_
  refine V_y (Y_move rfl) rfl rfl rfl ?_
  refine V_y (Y_move rfl) rfl rfl rfl ?_
  refine V_y (Y_geq rfl rfl) rfl rfl rfl ?_
  refine V_y (Y_move rfl) rfl rfl rfl ?_
  refine V_cut 4 (fun _ : Unit => [(14, .bool ((decide (low ≤ n)) && (decide (n ≤ high))))]) (fun _ w' => w = w') ?_ ?_
  · simp only [List.take, List.drop]
    rcases Bool.eq_false_or_eq_true (decide (low ≤ n)) with hc1 | hc1
    · refine V_ge rfl rfl rfl hc1 ?_
      refine V_y (Y_move rfl) rfl rfl rfl ?_
      refine V_ge rfl rfl rfl hc1 ?_
      refine V_y (Y_move rfl) rfl rfl rfl ?_
      refine V_ge rfl rfl rfl hc1 ?_
      refine V_y (Y_leq rfl rfl) rfl rfl rfl ?_
      refine V_y (Y_pick_te rfl hc1 rfl) rfl rfl rfl ?_
      exact V_end fun a ha => ⟨(), ha.sub ⟨(by rw [hc1]; rfl), trivial⟩, rfl⟩
    · refine V_gn rfl rfl rfl hc1 rfl rfl rfl ?_
      refine V_gn rfl rfl rfl hc1 rfl rfl rfl ?_
      refine V_gn rfl rfl rfl hc1 rfl rfl rfl ?_
      refine V_y (Y_pick_fe rfl hc1 rfl) rfl rfl rfl ?_
      exact V_end fun a ha => ⟨(), ha.sub ⟨(by rw [hc1]; rfl), trivial⟩, rfl⟩
  simp only [List.take, List.drop]
  rintro _ _ rfl
  refine V_y (Y_assign rfl) rfl rfl rfl ?_
  refine V_to (fun _ _ => rfl) ?_
  obtain rfl := hm
  refine C_ret ?_
  try simp only [↓inBlock_ret, ↓then_ret]
  exact retQ rfl (Res.one Tryz.results8 rfl) ⟨rfl, rfl⟩

def Tryz_strings_genSplit_lay_ren : Go.Shelf.Ren := ⟨fun | 138 => 67 | 143 => 69 | 195 => 80 | 197 => 71 | 217 => 91 | 218 => 81 | 219 => 84 | 221 => 59 | 224 => 93 | 225 => 92 | 260 => 85 | 266 => 96 | 267 => 94 | 268 => 77 | 314 => 97 | n => n, fun | 0 => 0 | 1 => 1 | 2 => 2 | 3 => 3 | 4 => 4 | 5 => 5 | 6 => 6 | 7 => 7 | 8 => 8 | 9 => 9 | 10 => 10 | 11 => 11 | 12 => 12 | 13 => 13 | 14 => 14 | 15 => 15 | 16 => 16 | 17 => 17 | 18 => 18 | 19 => 19 | 20 => 20 | 21 => 21 | 27 => 99 | 28 => 23 | 31 => 57 | 34 => 27 | 35 => 50 | 37 => 85 | 40 => 82 | 41 => 49 | 46 => 62 | 47 => 61 | 51 => 78 | 52 => 77 | 53 => 80 | 54 => 79 | 55 => 120 | 61 => 66 | 65 => 83 | 66 => 64 | 68 => 58 | 69 => 109 | 70 => 100 | 71 => 101 | 72 => 102 | 73 => 103 | 74 => 53 | 75 => 54 | 76 => 55 | 77 => 56 | 80 => 106 | 81 => 151 | 83 => 113 | 84 => 134 | 85 => 86 | 86 => 87 | 103 => 119 | 104 => 63 | 105 => 104 | 106 => 105 | 108 => 112 | 111 => 35 | 112 => 73 | 113 => 91 | 114 => 129 | 119 => 130 | 127 => 121 | 128 => 65 | 131 => 75 | 134 => 60 | 137 => 131 | 138 => 132 | 139 => 133 | 143 => 123 | 144 => 124 | 145 => 125 | 146 => 135 | 150 => 114 | 151 => 136 | 155 => 118 | 164 => 126 | 165 => 127 | 166 => 128 | 167 => 84 | 168 => 88 | 169 => 89 | 170 => 90 | 171 => 137 | 172 => 138 | 173 => 139 | 174 => 140 | 175 => 107 | 176 => 108 | 181 => 68 | 182 => 69 | 183 => 70 | 184 => 71 | 185 => 72 | 186 => 74 | 187 => 76 | 209 => 110 | 210 => 111 | 211 => 141 | 212 => 142 | 213 => 143 | 214 => 122 | 218 => 92 | 219 => 93 | 220 => 94 | 221 => 95 | 222 => 96 | 223 => 97 | 228 => 115 | 229 => 116 | 230 => 117 | 232 => 144 | 233 => 145 | 238 => 146 | 239 => 147 | 240 => 148 | 241 => 149 | 242 => 150 | 243 => 152 | 244 => 153 | 245 => 154 | 246 => 155 | 247 => 156 | 248 => 157 | 249 => 158 | n => n, fun | 1 => 2 | 3 => 3 | 4 => 4 | 15 => 0 | 16 => 1 | 17 => 5 | 18 => 6 | 19 => 7 | n => n⟩
theorem Tryz_strings_genSplit_lay : Go.Proofs.Lays.n221 Tryz.prog Tryz_strings_genSplit_lay_ren := {
  mixed := by kernel_rfl,
  f138 := Tryz.func67.trans (congrArg some (by kernel_rfl)),
  f143 := Tryz.func69.trans (congrArg some (by kernel_rfl)),
  f195 := Tryz.func80.trans (congrArg some (by kernel_rfl)),
  f197 := Tryz.func71.trans (congrArg some (by kernel_rfl)),
  f217 := Tryz.func91.trans (congrArg some (by kernel_rfl)),
  f218 := Tryz.func81.trans (congrArg some (by kernel_rfl)),
  f219 := Tryz.func84.trans (congrArg some (by kernel_rfl)),
  f221 := Tryz.func59.trans (congrArg some (by kernel_rfl)),
  f224 := Tryz.func93.trans (congrArg some (by kernel_rfl)),
  f225 := Tryz.func92.trans (congrArg some (by kernel_rfl)),
  f260 := Tryz.func85.trans (congrArg some (by kernel_rfl)),
  f266 := Tryz.func96.trans (congrArg some (by kernel_rfl)),
  f267 := Tryz.func94.trans (congrArg some (by kernel_rfl)),
  f268 := Tryz.func77.trans (congrArg some (by kernel_rfl)),
  f314 := Tryz.func97.trans (congrArg some (by kernel_rfl)),
  t0 := Tryz.underlying0,
  a0 := Tryz.isAgg0,
  z0 := Tryz.sizeOf0,
  v0 := Tryz.zeroValue0,
  t3 := Tryz.underlying3,
  a3 := Tryz.isAgg3,
  z3 := Tryz.sizeOf3,
  v3 := Tryz.zeroValue3,
  t4 := Tryz.underlying4,
  a4 := Tryz.isAgg4,
  z4 := Tryz.sizeOf4,
  v4 := Tryz.zeroValue4,
  t5 := Tryz.underlying5,
  a5 := Tryz.isAgg5,
  z5 := Tryz.sizeOf5,
  v5 := Tryz.zeroValue5,
  t9 := Tryz.underlying9,
  a9 := Tryz.isAgg9,
  z9 := Tryz.sizeOf9,
  v9 := Tryz.zeroValue9,
  t21 := Tryz.underlying21,
  a21 := Tryz.isAgg21,
  z21 := Tryz.sizeOf21,
  v21 := Tryz.zeroValue21,
  t31 := Tryz.underlying57,
  a31 := Tryz.isAgg57,
  z31 := Tryz.sizeOf57,
  v31 := Tryz.zeroValue57,
  t46 := Tryz.underlying62,
  a46 := Tryz.isAgg62,
  z46 := Tryz.sizeOf62,
  v46 := Tryz.zeroValue62,
  t51 := Tryz.underlying78,
  a51 := Tryz.isAgg78,
  z51 := Tryz.sizeOf78,
  v51 := Tryz.zeroValue78,
  t105 := Tryz.underlying104,
  a105 := Tryz.isAgg104,
  z105 := Tryz.sizeOf104,
  v105 := Tryz.zeroValue104,
  t119 := Tryz.underlying130,
  a119 := Tryz.isAgg130,
  z119 := Tryz.sizeOf130,
  t138 := Tryz.underlying132,
  a138 := Tryz.isAgg132,
  z138 := Tryz.sizeOf132,
  v138 := Tryz.zeroValue132,
  t139 := Tryz.underlying133,
  a139 := Tryz.isAgg133,
  z139 := Tryz.sizeOf133,
  v139 := Tryz.zeroValue133,
  t146 := Tryz.underlying135,
  a146 := Tryz.isAgg135,
  z146 := Tryz.sizeOf135,
  v146 := Tryz.zeroValue135,
  g1 := by kernel_rfl,
  g3 := by kernel_rfl,
  g4 := by kernel_rfl }
theorem strings_genSplit_c (w : World) {A : Nat → Prop} (hA : ∀ b, w.heap.size ≤ b → A b) (hT : Mx Tryz.prog 2 A w) (s : ByteArray) (sep : ByteArray) (sepSave : Int) (n : Int) {r : List ByteArray} (hm : strings_genSplit s sep sepSave n = some r) : Ret Tryz.prog 59 #[.string s, .string sep, .int .i64 sepSave, .int .i64 n] w fun v w' => ∃ s0, v = s0 ∧ Sl A w' s0 r ∧ Kp Dw w w' := by
  unfold strings_genSplit at hm
  split at hm
  case isFalse => cases hm
  rename_i h
  obtain ⟨h1, h2, h3, h4, rfl⟩ := h
  obtain rfl := Option.some.inj hm
  obtain ⟨⟨m, hmx⟩, _, _⟩ := hT
  obtain ⟨k, rfl⟩ := Int.eq_ofNat_of_zero_le h3
  have hlen := Go.Lib.splitB_length_le sep (k : Int).toNat (min (Go.Lib.countB s sep + 1) (s.size + 1) - 1) s
  refine split_wrap (Dw := Dw) (N := min (Go.Lib.countB s sep + 1) (s.size + 1)) (sv := k) hA (by omega) (by unfold maxLen; omega) (Go.Proofs.Any.strings_genSplit Tryz_strings_genSplit_lay (by kernel_rfl) s sep k (-1) _ m w h1 hmx h2 (by omega) (by decide) (by decide) ?_)
  rw [if_pos (by decide)]
  omega

set_option maxRecDepth 4000 in
set_option maxHeartbeats 4000000 in
theorem strings_SplitAfter_c (w : World) {A : Nat → Prop} (hA : ∀ b, w.heap.size ≤ b → A b) (hT : Fz Tryz_FR A w) (s : ByteArray) (sep : ByteArray) {r : (List ByteArray)} (hm : strings_SplitAfter s sep = some r) : Ret Tryz.prog 38 #[.string s, .string sep] w fun v w' => ∃ s0, v = s0 ∧ Sl A w' s0 r ∧ Kp Dw w w' := by
  unfold strings_SplitAfter at hm
  refine enter Tryz.func38 rfl Tryz.ntmps38 rfl ?_
  have hA0 := hA
  have hB := Nat.le_refl w.heap.size
  have hK : Tr Dw w.heap.size A w A w := Tr.refl (Dw := Dw) hA
  have hH : Hp w.heap.size A w [] := Hp.nil
  refine C_seq ?_
  refine C_region ?_
  refine V_y (Y_assign rfl) rfl rfl rfl ?_
  refine V_to (fun _ _ => rfl) ?_
  refine C_seq ?_
  refine C_region ?_
  refine V_y (Y_move rfl) rfl rfl rfl ?_
  refine V_y (Y_move rfl) rfl rfl rfl ?_
  refine V_y (Y_move rfl) rfl rfl rfl ?_
  refine V_y (Y_lenStr rfl Tryz.underlying9 rfl) rfl rfl rfl ?_
  obtain ⟨x1, hx1, hm⟩ := Option.bind_eq_some_iff.1 hm
  refine V_call Tryz.call59 rfl rfl rfl rfl (strings_genSplit_c (Dw := Dw) w hA ((Fz.tr (Dw := Dw) hT hK)).1 s sep (sep.size : Int) (-1) hx1) ?_
  rintro v2 w4 ⟨_, rfl, h3, hk5⟩
  have ht6 := Kp.tr (Dw := Dw) hk5 hA hB
  replace hH := Hp.kp (Dw := Dw) hH hk5
  replace hK := Tr.trans (Dw := Dw) hK ht6
  replace hB := Nat.le_trans hB ht6.ex.size
  replace hA := ht6.new
  refine V_y (Y_assign rfl) rfl rfl rfl ?_
  refine V_to (fun _ _ => rfl) ?_
  obtain rfl := Option.some.inj hm
  refine C_ret ?_
  try simp only [↓inBlock_ret, ↓then_ret]
  exact retQ rfl (Res.one Tryz.results38 rfl) ⟨v2, rfl, (Sl.out (Dw := Dw) h3 hA0 hK), hK.kp⟩

set_option maxRecDepth 4000 in
set_option maxHeartbeats 4000000 in
theorem know_lines_c (w : World) {A : Nat → Prop} (hA : ∀ b, w.heap.size ≤ b → A b) (hT : Fz Tryz_FR A w) (body : ByteArray) {r : (List ByteArray)} (hm : know_lines body = some r) : Ret Tryz.prog 29 #[.string body] w fun v w' => ∃ s0, v = s0 ∧ Sl A w' s0 r ∧ Kp Dw w w' := by
  unfold know_lines at hm
  refine enter Tryz.func29 rfl Tryz.ntmps29 rfl ?_
  have hA0 := hA
  have hB := Nat.le_refl w.heap.size
  have hK : Tr Dw w.heap.size A w A w := Tr.refl (Dw := Dw) hA
  have hH : Hp w.heap.size A w [] := Hp.nil
  refine C_seq ?_
  refine C_region ?_
  refine V_y (Y_assign rfl) rfl rfl rfl ?_
  refine V_to (fun _ _ => rfl) ?_
  refine C_seq ?_
  refine C_region ?_
  refine V_y (Y_move rfl) rfl rfl rfl ?_
  obtain ⟨x1, hx1, hm⟩ := Option.bind_eq_some_iff.1 hm
  refine V_call Tryz.call38 rfl rfl rfl rfl (strings_SplitAfter_c (Dw := Dw) w hA (Fz.tr (Dw := Dw) hT hK) body (⟨#[10]⟩ : ByteArray) hx1) ?_
  rintro v2 w4 ⟨_, rfl, h3, hk5⟩
  have ht6 := Kp.tr (Dw := Dw) hk5 hA hB
  replace hH := Hp.kp (Dw := Dw) hH hk5
  replace hK := Tr.trans (Dw := Dw) hK ht6
  replace hB := Nat.le_trans hB ht6.ex.size
  replace hA := ht6.new
  refine V_y (Y_assign rfl) rfl rfl rfl ?_
  refine V_to (fun _ _ => rfl) ?_
  refine C_seq ?_
  refine C_seq ?_
  refine C_region ?_
  refine V_y (Y_move rfl) rfl rfl rfl ?_
  refine V_y (Y_move rfl) rfl rfl rfl ?_
  refine V_y (Y_lenSl h3 rfl Tryz.underlying57 rfl) rfl rfl rfl ?_
  refine V_y (Y_subI rfl rfl) rfl rfl rfl ?_
  obtain ⟨x7, hx7, hm⟩ := Option.bind_eq_some_iff.1 hm
  refine V_indexAddr h3 hx7 Tryz.underlying57 Tryz.sizeOf9 rfl rfl rfl ?_
  intro b8 o9 h10
  refine V_y (Y_load (El.str h10) Tryz.isAgg9 rfl) rfl rfl rfl ?_
  refine V_y (Y_seql rfl rfl) rfl rfl rfl ?_
  refine V_to (fun _ _ => rfl) ?_
  obtain ⟨s12, ho11, hm⟩ := Option.bind_eq_some_iff.1 hm
  refine C_cutG (ι := Value) (fun (v14 : Value) => [(3, v14)]) (fun (v14 : Value) => fun w' => Sl A w' v14 s12 ∧ w4 = w') ?_ ?_
  · refine C_cond rfl (fun hc20 => ?_) (fun hc20 => ?_)
    · rw [if_pos hc20] at ho11
      refine C_region ?_
      refine V_y (Y_move rfl) rfl rfl rfl ?_
      refine V_y (Y_move rfl) rfl rfl rfl ?_
      refine V_y (Y_lenSl h3 rfl Tryz.underlying57 rfl) rfl rfl rfl ?_
      refine V_y (Y_subI rfl rfl) rfl rfl rfl ?_
      obtain ⟨x21, hx21, ho11⟩ := Option.bind_eq_some_iff.1 ho11
      obtain ⟨v22, h23, h23y⟩ := sliceL_val hx21 h3
      refine V_y (Y_sliceLH h23y Tryz.underlying57 Tryz.sizeOf9 rfl rfl) rfl rfl rfl ?_
      refine V_y (Y_assign rfl) rfl rfl rfl ?_
      obtain rfl := Option.some.inj ho11
      refine V_end (fun a ha24 => ?_)
      exact ⟨v22, ha24.sub ⟨rfl, trivial⟩, ⟨h23, rfl⟩⟩
    · rw [if_neg (nt hc20)] at ho11
      obtain rfl := Option.some.inj ho11
      refine C_skip (fun a ha25 => ?_)
      exact ⟨v2, ha25.sub ⟨rfl, trivial⟩, ⟨h3, rfl⟩⟩
  rintro v14 _ ⟨h15, rfl⟩ a ha19
  refine C_at (n := ⟨19, [], none⟩) (fun _ _ => rfl) ?_ ha19
  refine C_seq ?_
  refine C_region ?_
  refine V_y (Y_move rfl) rfl rfl rfl ?_
  refine V_y (Y_assign rfl) rfl rfl rfl ?_
  refine V_to (fun _ _ => rfl) ?_
  obtain rfl := Option.some.inj hm
  refine C_ret ?_
  try simp only [↓inBlock_ret, ↓then_ret]
  exact retQ rfl (Res.one Tryz.results29 rfl) ⟨v14, rfl, (Sl.out (Dw := Dw) h15 hA0 hK), hK.kp⟩

set_option maxRecDepth 4000 in
set_option maxHeartbeats 4000000 in
theorem know_plain_c (w : World) (s : ByteArray) (feeds : Bool) {r : Bool} (hm : know_plain s feeds = some r) : Ret Tryz.prog 39 #[.string s, .bool feeds] w fun v w' => v = .bool r ∧ w = w' := by
  unfold know_plain at hm
  refine enter Tryz.func39 rfl Tryz.ntmps39 rfl ?_
  refine C_seq ?_
  refine C_region ?_
  refine V_y (Y_assign rfl) rfl rfl rfl ?_
  refine V_to (fun _ _ => rfl) ?_
  refine C_seq ?_
  refine C_seq ?_
  refine C_region ?_
  refine V_y (Y_move rfl) rfl rfl rfl ?_
  refine V_y (Y_lenStr rfl Tryz.underlying9 rfl) rfl rfl rfl ?_
  refine V_y (Y_move rfl) rfl rfl rfl ?_
  refine V_to (fun _ _ => rfl) ?_
  obtain ⟨o1, ho1, hm⟩ := Option.bind_eq_some_iff.1 hm
  refine C_cutG (ι := Int) (fun (s2 : Int) => []) (fun (s2 : Int) => fun w' => o1 = .fin s2 ∧ w = w') ?_ ?_
  · refine C_block ?_
    refine C_while ho1 (fun s8 a w' => ∃ i : Unit, Has ⟨32, [], none⟩ a ([(0, .string s), (1, .bool feeds), (7, .int .i64 (s.size : Int)), (8, .int .i64 s8)]) ∧ w = w') (fun a ha => ⟨(), ha.sub ⟨rfl, rfl, rfl, rfl, trivial⟩, rfl⟩) ?_
    rintro K s8 a _ ⟨_, ha28, rfl⟩ K16
    refine C_of ?_ ha28
    obtain ⟨x10, h11, h12⟩ := K16
    refine C_seq ?_
    refine C_region ?_
    refine V_y (Y_lss rfl rfl) rfl rfl rfl ?_
    refine V_to (fun _ _ => rfl) ?_
    refine C_seq ?_
    refine C_cond rfl (fun hc17 => ?_) (fun hc17 => ?_)
    · rw [if_pos hc17] at h11
      refine C_skip_to (fun _ _ => rfl) ?_
      refine C_seq ?_
      refine C_block ?_
      refine C_seq ?_
      refine C_region ?_
      refine V_y (Y_move rfl) rfl rfl rfl ?_
      refine V_y (Y_assign rfl) rfl rfl rfl ?_
      refine V_to (fun _ _ => rfl) ?_
      refine C_seq ?_
      refine C_region ?_
      refine V_y (Y_move rfl) rfl rfl rfl ?_
      refine V_y (Y_move rfl) rfl rfl rfl ?_
      obtain ⟨x18, hx18, h11⟩ := Option.bind_eq_some_iff.1 h11
      refine V_y (Y_indexS hx18 Tryz.underlying9 rfl rfl) rfl rfl rfl ?_
      refine V_y (Y_lss rfl rfl) rfl rfl rfl ?_
      refine V_y (Y_move rfl) rfl rfl rfl ?_
      obtain ⟨s20, hs20, h11⟩ := Option.bind_eq_some_iff.1 h11
      refine V_cut 5 (fun _ : Unit => [(0, .string s), (1, .bool feeds), (5, .int .i64 s8), (7, .int .i64 (s.size : Int)), (8, .int .i64 s8), (20, .bool s20)]) (fun _ w' => w = w') ?_ ?_
      · simp only [List.take, List.drop]
        rcases Bool.eq_false_or_eq_true (decide ((x18.toNat : Int) < 32)) with hc19 | hc19
        · rw [if_pos hc19] at hs20
          refine V_gn rfl rfl rfl hc19 rfl rfl rfl ?_
          refine V_gn rfl rfl rfl hc19 rfl rfl rfl ?_
          refine V_gn rfl rfl rfl hc19 rfl rfl rfl ?_
          refine V_gn rfl rfl rfl hc19 rfl rfl rfl ?_
          refine V_y (Y_pick_te rfl hc19 rfl) rfl rfl rfl ?_
          obtain rfl := Option.some.inj hs20
          exact V_end fun a ha => ⟨(), ha.sub ⟨rfl, rfl, rfl, rfl, rfl, rfl, trivial⟩, rfl⟩
        · rw [if_neg (nt hc19)] at hs20
          refine V_ge rfl rfl rfl hc19 ?_
          refine V_y (Y_move rfl) rfl rfl rfl ?_
          refine V_ge rfl rfl rfl hc19 ?_
          refine V_y (Y_move rfl) rfl rfl rfl ?_
          refine V_ge rfl rfl rfl hc19 ?_
          refine V_y (Y_indexS hx18 Tryz.underlying9 rfl rfl) rfl rfl rfl ?_
          refine V_ge rfl rfl rfl hc19 ?_
          refine V_y (Y_eql rfl rfl) rfl rfl rfl ?_
          refine V_y (Y_pick_fe rfl hc19 rfl) rfl rfl rfl ?_
          obtain rfl := Option.some.inj hs20
          exact V_end fun a ha => ⟨(), ha.sub ⟨rfl, rfl, rfl, rfl, rfl, rfl, trivial⟩, rfl⟩
      simp only [List.take, List.drop]
      rintro _ _ rfl
      refine V_y (Y_move rfl) rfl rfl rfl ?_
      obtain ⟨s22, hs22, h11⟩ := Option.bind_eq_some_iff.1 h11
      refine V_cut 9 (fun _ : Unit => [(0, .string s), (1, .bool feeds), (7, .int .i64 (s.size : Int)), (8, .int .i64 s8), (30, .bool s22)]) (fun _ w' => w = w') ?_ ?_
      · simp only [List.take, List.drop]
        rcases Bool.eq_false_or_eq_true (s20) with hc21 | hc21
        · rw [if_pos hc21] at hs22
          refine V_ge rfl rfl rfl hc21 ?_
          refine V_y (Y_move rfl) rfl rfl rfl ?_
          refine V_ge rfl rfl rfl hc21 ?_
          refine V_y (Y_move rfl) rfl rfl rfl ?_
          refine V_ge rfl rfl rfl hc21 ?_
          refine V_y (Y_indexS hx18 Tryz.underlying9 rfl rfl) rfl rfl rfl ?_
          refine V_ge rfl rfl rfl hc21 ?_
          refine V_y (Y_neq rfl rfl) rfl rfl rfl ?_
          refine V_ge rfl rfl rfl hc21 ?_
          refine V_y (Y_move rfl) rfl rfl rfl ?_
          refine V_cut 3 (fun _ : Unit => [(0, .string s), (1, .bool feeds), (7, .int .i64 (s.size : Int)), (8, .int .i64 s8), (21, .bool s20), (29, .bool (((x18.toNat : Int) != 10) || (!feeds)))]) (fun _ w' => w = w') ?_ ?_
          · simp only [List.take, List.drop]
            rcases Bool.eq_false_or_eq_true ((x18.toNat : Int) != 10) with hc23 | hc23
            · refine V_gn rfl rfl rfl hc23 rfl rfl rfl ?_
              refine V_gn rfl rfl rfl hc23 rfl rfl rfl ?_
              refine V_ge rfl rfl rfl hc21 ?_
              refine V_y (Y_pick_te rfl hc23 rfl) rfl rfl rfl ?_
              exact V_end fun a ha => ⟨(), ha.sub ⟨rfl, rfl, rfl, rfl, rfl, (by rw [hc23]; rfl), trivial⟩, rfl⟩
            · refine V_ge rfl rfl rfl hc23 ?_
              refine V_y (Y_move rfl) rfl rfl rfl ?_
              refine V_ge rfl rfl rfl hc23 ?_
              refine V_y (Y_not rfl) rfl rfl rfl ?_
              refine V_ge rfl rfl rfl hc21 ?_
              refine V_y (Y_pick_fe rfl hc23 rfl) rfl rfl rfl ?_
              exact V_end fun a ha => ⟨(), ha.sub ⟨rfl, rfl, rfl, rfl, rfl, (by rw [hc23]; rfl), trivial⟩, rfl⟩
          simp only [List.take, List.drop]
          rintro _ _ rfl
          refine V_y (Y_pick_te rfl hc21 rfl) rfl rfl rfl ?_
          obtain rfl := Option.some.inj hs22
          exact V_end fun a ha => ⟨(), ha.sub ⟨rfl, rfl, rfl, rfl, rfl, trivial⟩, rfl⟩
        · rw [if_neg (nt hc21)] at hs22
          refine V_gn rfl rfl rfl hc21 rfl rfl rfl ?_
          refine V_gn rfl rfl rfl hc21 rfl rfl rfl ?_
          refine V_gn rfl rfl rfl hc21 rfl rfl rfl ?_
          refine V_gn rfl rfl rfl hc21 rfl rfl rfl ?_
          refine V_gn rfl rfl rfl hc21 rfl rfl rfl ?_
          refine V_gu rfl rfl rfl rfl rfl ?_
          refine V_gu rfl rfl rfl rfl rfl ?_
          refine V_gn rfl rfl rfl hc21 rfl rfl rfl ?_
          refine V_y (Y_pick_fe rfl hc21 rfl) rfl rfl rfl ?_
          obtain rfl := Option.some.inj hs22
          exact V_end fun a ha => ⟨(), ha.sub ⟨rfl, rfl, rfl, rfl, rfl, trivial⟩, rfl⟩
      simp only [List.take, List.drop]
      rintro _ _ rfl
      refine V_to (fun _ _ => rfl) ?_
      refine C_cond rfl (fun hc25 => ?_) (fun hc25 => ?_)
      · rw [if_pos hc25] at h11
        refine C_seq ?_
        refine C_region ?_
        refine V_y (Y_assign rfl) rfl rfl rfl ?_
        refine V_to (fun _ _ => rfl) ?_
        obtain rfl := Option.some.inj h11
        obtain rfl := (h12 : Lp.rt _ = _)
        rw [Lp.andThen_rt] at hm
        obtain rfl := Option.some.inj hm
        refine C_ret ?_
        try simp only [↓inBlock_ret, ↓then_ret]
        exact retQ rfl (Res.one Tryz.results39 rfl) ⟨rfl, rfl⟩
      · rw [if_neg (nt hc25)] at h11
        refine C_skip_to (fun _ _ => rfl) ?_
        refine C_region ?_
        refine V_y (Y_addI rfl rfl) rfl rfl rfl ?_
        refine V_y (Y_move rfl) rfl rfl rfl ?_
        obtain rfl := Option.some.inj h11
        refine V_end (fun a ha26 => ?_)
        exact ⟨w64 (s8 + 1), h12, ⟨(), ha26.sub ⟨rfl, rfl, rfl, rfl, trivial⟩, rfl⟩⟩
    · rw [if_neg (nt hc17)] at h11
      obtain rfl := Option.some.inj h11
      refine C_exit (fun a ha27 => ?_)
      exact ⟨s8, ha27.sub trivial, ⟨h12.symm, rfl⟩⟩
  rintro s2 _ ⟨rfl, rfl⟩ a ha7
  rw [Lp.andThen_fin] at hm
  refine C_at (n := ⟨32, [], none⟩) (fun _ _ => rfl) ?_ ha7
  refine C_seq ?_
  refine C_region ?_
  refine V_y (Y_assign rfl) rfl rfl rfl ?_
  refine V_to (fun _ _ => rfl) ?_
  obtain rfl := Option.some.inj hm
  refine C_ret ?_
  try simp only [↓inBlock_ret, ↓then_ret]
  exact retQ rfl (Res.one Tryz.results39 rfl) ⟨rfl, rfl⟩

set_option maxRecDepth 4000 in
set_option maxHeartbeats 4000000 in
theorem know_checkText_c (w : World) (title : ByteArray) (body : ByteArray) {r : Int} (hm : know_checkText title body = some r) : Ret Tryz.prog 30 #[.string title, .string body] w fun v w' => v = .int .i64 r ∧ w = w' := by
  unfold know_checkText at hm
  refine enter Tryz.func30 rfl Tryz.ntmps30 rfl ?_
  refine C_seq ?_
  refine C_region ?_
  refine V_y (Y_assign rfl) rfl rfl rfl ?_
  refine V_to (fun _ _ => rfl) ?_
  refine C_seq ?_
  refine C_seq ?_
  refine C_region ?_
  refine V_y (Y_move rfl) rfl rfl rfl ?_
  refine V_y (Y_lenStr rfl Tryz.underlying9 rfl) rfl rfl rfl ?_
  refine V_y (Y_gtr rfl rfl) rfl rfl rfl ?_
  refine V_y (Y_move rfl) rfl rfl rfl ?_
  refine V_cut 4 (fun _ : Unit => [(0, .string title), (1, .string body), (12, .bool ((decide ((200 : Int) < (title.size : Int))) || (decide ((20000 : Int) < (body.size : Int)))))]) (fun _ w' => w = w') ?_ ?_
  · simp only [List.take, List.drop]
    rcases Bool.eq_false_or_eq_true (decide ((200 : Int) < (title.size : Int))) with hc1 | hc1
    · refine V_gn rfl rfl rfl hc1 rfl rfl rfl ?_
      refine V_gn rfl rfl rfl hc1 rfl rfl rfl ?_
      refine V_gn rfl rfl rfl hc1 rfl rfl rfl ?_
      refine V_y (Y_pick_te rfl hc1 rfl) rfl rfl rfl ?_
      exact V_end fun a ha => ⟨(), ha.sub ⟨rfl, rfl, (by rw [hc1]; rfl), trivial⟩, rfl⟩
    · refine V_ge rfl rfl rfl hc1 ?_
      refine V_y (Y_move rfl) rfl rfl rfl ?_
      refine V_ge rfl rfl rfl hc1 ?_
      refine V_y (Y_lenStr rfl Tryz.underlying9 rfl) rfl rfl rfl ?_
      refine V_ge rfl rfl rfl hc1 ?_
      refine V_y (Y_gtr rfl rfl) rfl rfl rfl ?_
      refine V_y (Y_pick_fe rfl hc1 rfl) rfl rfl rfl ?_
      exact V_end fun a ha => ⟨(), ha.sub ⟨rfl, rfl, (by rw [hc1]; rfl), trivial⟩, rfl⟩
  simp only [List.take, List.drop]
  rintro _ _ rfl
  refine V_to (fun _ _ => rfl) ?_
  refine C_cond rfl (fun hc3 => ?_) (fun hc3 => ?_)
  · rw [if_pos hc3] at hm
    refine C_seq ?_
    refine C_region ?_
    refine V_y (Y_assign rfl) rfl rfl rfl ?_
    refine V_to (fun _ _ => rfl) ?_
    obtain rfl := Option.some.inj hm
    refine C_ret ?_
    try simp only [↓inBlock_ret, ↓then_ret]
    exact retQ rfl (Res.one Tryz.results30 rfl) ⟨rfl, rfl⟩
  · rw [if_neg (nt hc3)] at hm
    refine C_skip_to (fun _ _ => rfl) ?_
    refine C_seq ?_
    refine C_seq ?_
    refine C_region ?_
    refine V_y (Y_move rfl) rfl rfl rfl ?_
    obtain ⟨x4, hx4, hm⟩ := Option.bind_eq_some_iff.1 hm
    refine V_call Tryz.call39 rfl rfl rfl rfl (know_plain_c w title false hx4) ?_
    rintro _ _ ⟨rfl, rfl⟩
    refine V_y (Y_not rfl) rfl rfl rfl ?_
    refine V_y (Y_move rfl) rfl rfl rfl ?_
    obtain ⟨s6, hs6, hm⟩ := Option.bind_eq_some_iff.1 hm
    refine V_cut 4 (fun _ : Unit => [(20, .bool s6)]) (fun _ w' => w = w') ?_ ?_
    · simp only [List.take, List.drop]
      rcases Bool.eq_false_or_eq_true (!x4) with hc5 | hc5
      · rw [if_pos hc5] at hs6
        refine V_gn rfl rfl rfl hc5 rfl rfl rfl ?_
        refine V_gn rfl rfl rfl hc5 rfl rfl rfl ?_
        refine V_gn rfl rfl rfl hc5 rfl rfl rfl ?_
        refine V_y (Y_pick_te rfl hc5 rfl) rfl rfl rfl ?_
        obtain rfl := Option.some.inj hs6
        exact V_end fun a ha => ⟨(), ha.sub ⟨rfl, trivial⟩, rfl⟩
      · rw [if_neg (nt hc5)] at hs6
        refine V_ge rfl rfl rfl hc5 ?_
        refine V_y (Y_move rfl) rfl rfl rfl ?_
        refine V_ge rfl rfl rfl hc5 ?_
        obtain ⟨x7, hx7, hs6⟩ := Option.bind_eq_some_iff.1 hs6
        refine V_call Tryz.call39 rfl rfl rfl rfl (know_plain_c w body true hx7) ?_
        rintro _ _ ⟨rfl, rfl⟩
        refine V_ge rfl rfl rfl hc5 ?_
        refine V_y (Y_not rfl) rfl rfl rfl ?_
        refine V_y (Y_pick_fe rfl hc5 rfl) rfl rfl rfl ?_
        obtain rfl := Option.some.inj hs6
        exact V_end fun a ha => ⟨(), ha.sub ⟨rfl, trivial⟩, rfl⟩
    simp only [List.take, List.drop]
    rintro _ _ rfl
    refine V_to (fun _ _ => rfl) ?_
    refine C_cond rfl (fun hc8 => ?_) (fun hc8 => ?_)
    · rw [if_pos hc8] at hm
      refine C_seq ?_
      refine C_region ?_
      refine V_y (Y_assign rfl) rfl rfl rfl ?_
      refine V_to (fun _ _ => rfl) ?_
      obtain rfl := Option.some.inj hm
      refine C_ret ?_
      try simp only [↓inBlock_ret, ↓then_ret]
      exact retQ rfl (Res.one Tryz.results30 rfl) ⟨rfl, rfl⟩
    · rw [if_neg (nt hc8)] at hm
      refine C_skip_to (fun _ _ => rfl) ?_
      refine C_seq ?_
      refine C_region ?_
      refine V_y (Y_assign rfl) rfl rfl rfl ?_
      refine V_to (fun _ _ => rfl) ?_
      obtain rfl := Option.some.inj hm
      refine C_ret ?_
      try simp only [↓inBlock_ret, ↓then_ret]
      exact retQ rfl (Res.one Tryz.results30 rfl) ⟨rfl, rfl⟩

set_option maxRecDepth 4000 in
set_option maxHeartbeats 4000000 in
theorem know_checkVersion_c (w : World) {A : Nat → Prop} (hA : ∀ b, w.heap.size ≤ b → A b) (hT : Fz Tryz_FR A w) (v : know_Version) (before : Int) {r : Int} (hm : know_checkVersion v before = some r) : Ret Tryz.prog 19 #[.agg #[.int .i64 v.at_, .string v.title, .string v.body], .int .i64 before] w fun v w' => v = .int .i64 r ∧ Kp Dw w w' := by
  unfold know_checkVersion at hm
  refine enter Tryz.func19 rfl Tryz.ntmps19 rfl ?_
  have hA0 := hA
  have hB := Nat.le_refl w.heap.size
  have hK : Tr Dw w.heap.size A w A w := Tr.refl (Dw := Dw) hA
  have hH : Hp w.heap.size A w [] := Hp.nil
  refine C_seq ?_
  refine C_region ?_
  refine V_box rfl rfl ?_
  intro b1 w2 h3
  have hk5 := h3.kp (Dw := Dw)
  have h4 : El (α := know_Version) A w2 b1 0 v := h3.el hA ⟨[.int .i64 v.at_], _, rfl, rfl, ⟨[.string v.title], _, rfl, rfl, rfl⟩⟩
  have ht6 := Kp.tr (Dw := Dw) hk5 hA hB
  replace hH := Hp.kp (Dw := Dw) hH hk5
  replace hK := Tr.trans (Dw := Dw) hK ht6
  replace hB := Nat.le_trans hB ht6.ex.size
  replace hA := ht6.new
  refine V_y (Y_assign rfl) rfl rfl rfl ?_
  refine V_to (fun _ _ => rfl) ?_
  refine C_seq ?_
  refine C_block ?_
  refine C_seq ?_
  refine C_region ?_
  have h7 := El_know_Version_0 h4
  refine V_y (Y_fieldAddr Tryz.underlying40 rfl Tryz.sizeOf3 (by decide) rfl) rfl rfl rfl ?_
  refine V_y (Y_load (El.int h7) Tryz.isAgg3 rfl) rfl rfl rfl ?_
  refine V_call Tryz.call8 rfl rfl rfl rfl (know_within_c w2 v.at_ 0 3000000) ?_
  rintro _ _ ⟨rfl, rfl⟩
  refine V_y (Y_not rfl) rfl rfl rfl ?_
  refine V_y (Y_assign rfl) rfl rfl rfl ?_
  refine V_to (fun _ _ => rfl) ?_
  refine C_cond rfl (fun hc8 => ?_) (fun hc8 => ?_)
  · rw [if_pos hc8] at hm
    refine C_seq ?_
    refine C_region ?_
    refine V_y (Y_assign rfl) rfl rfl rfl ?_
    refine V_to (fun _ _ => rfl) ?_
    obtain rfl := Option.some.inj hm
    refine C_ret ?_
    try simp only [↓inBlock_ret, ↓then_ret]
    exact retQ rfl (Res.one Tryz.results19 rfl) ⟨rfl, hK.kp⟩
  · rw [if_neg (nt hc8)] at hm
    refine C_seq ?_
    refine C_region ?_
    have h9 := El_know_Version_0 h4
    refine V_y (Y_fieldAddr Tryz.underlying40 rfl Tryz.sizeOf3 (by decide) rfl) rfl rfl rfl ?_
    refine V_y (Y_load (El.int h9) Tryz.isAgg3 rfl) rfl rfl rfl ?_
    refine V_y (Y_move rfl) rfl rfl rfl ?_
    refine V_y (Y_lss rfl rfl) rfl rfl rfl ?_
    refine V_y (Y_assign rfl) rfl rfl rfl ?_
    refine V_to (fun _ _ => rfl) ?_
    refine C_cond rfl (fun hc10 => ?_) (fun hc10 => ?_)
    · rw [if_pos hc10] at hm
      refine C_seq ?_
      refine C_region ?_
      refine V_y (Y_assign rfl) rfl rfl rfl ?_
      refine V_to (fun _ _ => rfl) ?_
      obtain rfl := Option.some.inj hm
      refine C_ret ?_
      try simp only [↓inBlock_ret, ↓then_ret]
      exact retQ rfl (Res.one Tryz.results19 rfl) ⟨rfl, hK.kp⟩
    · rw [if_neg (nt hc10)] at hm
      refine C_seq ?_
      obtain ⟨s12, ho11, hm⟩ := Option.bind_eq_some_iff.1 hm
      refine C_cutG (ι := (Nat → Prop)) (fun (A17 : (Nat → Prop)) => [(2, .pointer (some ⟨b1, 0, none⟩)), (16, .bool s12)]) (fun (A17 : (Nat → Prop)) => fun w' => Hp w.heap.size A17 w' ([]) ∧ Tr Dw w.heap.size A w2 A17 w') ?_ ?_
      · have hr13 : Tr Dw w.heap.size A w2 A w2 := Tr.refl (Dw := Dw) hA
        refine C_region ?_
        have h19 := El_know_Version_2 h4
        refine V_y (Y_fieldAddr Tryz.underlying40 rfl Tryz.sizeOf9 (by decide) rfl) rfl rfl rfl ?_
        refine V_y (Y_load (El.str h19) Tryz.isAgg9 rfl) rfl rfl rfl ?_
        refine V_y (Y_lenStr rfl Tryz.underlying9 rfl) rfl rfl rfl ?_
        refine V_y (Y_leq rfl rfl) rfl rfl rfl ?_
        refine V_y (Y_move rfl) rfl rfl rfl ?_
        rcases Bool.eq_false_or_eq_true (decide ((v.body.size : Int) ≤ 20000)) with hc20 | hc20
        · rw [if_pos hc20] at ho11
          refine V_ge rfl rfl rfl hc20 ?_
          have h21 := El_know_Version_2 h4
          refine V_y (Y_fieldAddr Tryz.underlying40 rfl Tryz.sizeOf9 (by decide) rfl) rfl rfl rfl ?_
          refine V_ge rfl rfl rfl hc20 ?_
          refine V_y (Y_load (El.str h21) Tryz.isAgg9 rfl) rfl rfl rfl ?_
          refine V_ge rfl rfl rfl hc20 ?_
          obtain ⟨x22, hx22, ho11⟩ := Option.bind_eq_some_iff.1 ho11
          refine V_call Tryz.call29 rfl rfl rfl rfl (know_lines_c (Dw := Dw) w2 hA (Fz.tr (Dw := Dw) hT hK) v.body hx22) ?_
          rintro v23 w25 ⟨_, rfl, h24, hk26⟩
          have ht27 := Kp.tr (Dw := Dw) hk26 hA hB
          replace hH := Hp.kp (Dw := Dw) hH hk26
          replace h4 := El.tr (Dw := Dw) h4 ht27
          replace h19 := El.tr (Dw := Dw) h19 ht27
          replace h21 := El.tr (Dw := Dw) h21 ht27
          replace hK := Tr.trans (Dw := Dw) hK ht27
          replace hr13 := Tr.trans (Dw := Dw) hr13 ht27
          replace hB := Nat.le_trans hB ht27.ex.size
          replace hA := ht27.new
          refine V_ge rfl rfl rfl hc20 ?_
          refine V_y (Y_lenSl h24 rfl Tryz.underlying57 rfl) rfl rfl rfl ?_
          refine V_ge rfl rfl rfl hc20 ?_
          refine V_y (Y_gtr rfl rfl) rfl rfl rfl ?_
          refine V_y (Y_pick_te rfl hc20 rfl) rfl rfl rfl ?_
          refine V_y (Y_assign rfl) rfl rfl rfl ?_
          obtain rfl := Option.some.inj ho11
          refine V_end (fun a ha28 => ?_)
          exact ⟨A, ha28.sub ⟨rfl, rfl, trivial⟩, ⟨hH, hr13⟩⟩
        · rw [if_neg (nt hc20)] at ho11
          refine V_gn rfl rfl rfl hc20 rfl rfl rfl ?_
          refine V_gn rfl rfl rfl hc20 rfl rfl rfl ?_
          refine V_gn rfl rfl rfl hc20 rfl rfl rfl ?_
          refine V_gn rfl rfl rfl hc20 rfl rfl rfl ?_
          refine V_gn rfl rfl rfl hc20 rfl rfl rfl ?_
          refine V_y (Y_pick_fe rfl hc20 rfl) rfl rfl rfl ?_
          refine V_y (Y_assign rfl) rfl rfl rfl ?_
          obtain rfl := Option.some.inj ho11
          refine V_end (fun a ha29 => ?_)
          exact ⟨A, ha29.sub ⟨rfl, rfl, trivial⟩, ⟨hH, hr13⟩⟩
      rintro A17 w14 ⟨hH18, hk15⟩ a ha16
      replace h4 := El.tr (Dw := Dw) h4 hk15
      replace hK := Tr.trans (Dw := Dw) hK hk15
      replace hB := Nat.le_trans hB hk15.ex.size
      replace hA := hk15.new
      replace hH : Hp w.heap.size A17 w14 ([]) := hH18
      refine C_at (n := ⟨44, [], none⟩) (fun _ _ => rfl) ?_ ha16
      refine C_cond rfl (fun hc30 => ?_) (fun hc30 => ?_)
      · rw [if_pos hc30] at hm
        refine C_seq ?_
        refine C_region ?_
        refine V_y (Y_assign rfl) rfl rfl rfl ?_
        refine V_to (fun _ _ => rfl) ?_
        obtain rfl := Option.some.inj hm
        refine C_ret ?_
        try simp only [↓inBlock_ret, ↓then_ret]
        exact retQ rfl (Res.one Tryz.results19 rfl) ⟨rfl, hK.kp⟩
      · rw [if_neg (nt hc30)] at hm
        refine C_skip_to (fun _ _ => rfl) ?_
        refine C_seq ?_
        refine C_seq ?_
        refine C_region ?_
        have h31 := El_know_Version_1 h4
        refine V_y (Y_fieldAddr Tryz.underlying40 rfl Tryz.sizeOf9 (by decide) rfl) rfl rfl rfl ?_
        refine V_y (Y_load (El.str h31) Tryz.isAgg9 rfl) rfl rfl rfl ?_
        have h32 := El_know_Version_2 h4
        refine V_y (Y_fieldAddr Tryz.underlying40 rfl Tryz.sizeOf9 (by decide) rfl) rfl rfl rfl ?_
        refine V_y (Y_load (El.str h32) Tryz.isAgg9 rfl) rfl rfl rfl ?_
        obtain ⟨x33, hx33, hm⟩ := Option.bind_eq_some_iff.1 hm
        refine V_call Tryz.call30 rfl rfl rfl rfl (know_checkText_c w14 v.title v.body hx33) ?_
        rintro _ _ ⟨rfl, rfl⟩
        refine V_y (Y_assign rfl) rfl rfl rfl ?_
        refine V_to (fun _ _ => rfl) ?_
        refine C_seq ?_
        refine C_region ?_
        refine V_y (Y_move rfl) rfl rfl rfl ?_
        refine V_y (Y_neq rfl rfl) rfl rfl rfl ?_
        refine V_to (fun _ _ => rfl) ?_
        refine C_cond rfl (fun hc34 => ?_) (fun hc34 => ?_)
        · rw [if_pos hc34] at hm
          refine C_seq ?_
          refine C_region ?_
          refine V_y (Y_move rfl) rfl rfl rfl ?_
          refine V_y (Y_assign rfl) rfl rfl rfl ?_
          refine V_to (fun _ _ => rfl) ?_
          obtain rfl := Option.some.inj hm
          refine C_ret ?_
          try simp only [↓inBlock_ret, ↓then_ret]
          exact retQ rfl (Res.one Tryz.results19 rfl) ⟨rfl, hK.kp⟩
        · rw [if_neg (nt hc34)] at hm
          refine C_skip_to (fun _ _ => rfl) ?_
          refine C_seq ?_
          refine C_seq ?_
          refine C_region ?_
          have h35 := El_know_Version_1 h4
          refine V_y (Y_fieldAddr Tryz.underlying40 rfl Tryz.sizeOf9 (by decide) rfl) rfl rfl rfl ?_
          refine V_y (Y_load (El.str h35) Tryz.isAgg9 rfl) rfl rfl rfl ?_
          refine V_y (Y_seql rfl rfl) rfl rfl rfl ?_
          refine V_y (Y_move rfl) rfl rfl rfl ?_
          refine V_cut 4 (fun _ : Unit => [(43, .bool ((strEq v.title (⟨#[]⟩ : ByteArray)) && (!(strEq v.body (⟨#[]⟩ : ByteArray)))))]) (fun _ w' => w14 = w') ?_ ?_
          · simp only [List.take, List.drop]
            rcases Bool.eq_false_or_eq_true (strEq v.title (⟨#[]⟩ : ByteArray)) with hc36 | hc36
            · refine V_ge rfl rfl rfl hc36 ?_
              have h38 := El_know_Version_2 h4
              refine V_y (Y_fieldAddr Tryz.underlying40 rfl Tryz.sizeOf9 (by decide) rfl) rfl rfl rfl ?_
              refine V_ge rfl rfl rfl hc36 ?_
              refine V_y (Y_load (El.str h38) Tryz.isAgg9 rfl) rfl rfl rfl ?_
              refine V_ge rfl rfl rfl hc36 ?_
              refine V_y (Y_sneq rfl rfl) rfl rfl rfl ?_
              refine V_y (Y_pick_te rfl hc36 rfl) rfl rfl rfl ?_
              exact V_end fun a ha => ⟨(), ha.sub ⟨(by rw [hc36]; rfl), trivial⟩, rfl⟩
            · refine V_gn rfl rfl rfl hc36 rfl rfl rfl ?_
              refine V_gn rfl rfl rfl hc36 rfl rfl rfl ?_
              refine V_gn rfl rfl rfl hc36 rfl rfl rfl ?_
              refine V_y (Y_pick_fe rfl hc36 rfl) rfl rfl rfl ?_
              exact V_end fun a ha => ⟨(), ha.sub ⟨(by rw [hc36]; rfl), trivial⟩, rfl⟩
          simp only [List.take, List.drop]
          rintro _ _ rfl
          refine V_to (fun _ _ => rfl) ?_
          refine C_cond rfl (fun hc39 => ?_) (fun hc39 => ?_)
          · rw [if_pos hc39] at hm
            refine C_seq ?_
            refine C_region ?_
            refine V_y (Y_assign rfl) rfl rfl rfl ?_
            refine V_to (fun _ _ => rfl) ?_
            obtain rfl := Option.some.inj hm
            refine C_ret ?_
            try simp only [↓inBlock_ret, ↓then_ret]
            exact retQ rfl (Res.one Tryz.results19 rfl) ⟨rfl, hK.kp⟩
          · rw [if_neg (nt hc39)] at hm
            refine C_skip_to (fun _ _ => rfl) ?_
            refine C_seq ?_
            refine C_region ?_
            refine V_y (Y_assign rfl) rfl rfl rfl ?_
            refine V_to (fun _ _ => rfl) ?_
            obtain rfl := Option.some.inj hm
            refine C_ret ?_
            try simp only [↓inBlock_ret, ↓then_ret]
            exact retQ rfl (Res.one Tryz.results19 rfl) ⟨rfl, hK.kp⟩

set_option maxRecDepth 4000 in
set_option maxHeartbeats 4000000 in
theorem know_CheckArticles_c (w : World) {A : Nat → Prop} (hA : ∀ b, w.heap.size ≤ b → A b) (hT : Fz Tryz_FR A w) (l : (List know_Article)) (v_l : Value) (h_l : Sl A w v_l l) {r : Int} (hm : know_CheckArticles l = some r) : Ret Tryz.prog 7 #[v_l] w fun v w' => v = .int .i64 r ∧ Kp Dw w w' := by
  unfold know_CheckArticles at hm
  refine enter Tryz.func7 rfl Tryz.ntmps7 rfl ?_
  have hA0 := hA
  have hB := Nat.le_refl w.heap.size
  have hK : Tr Dw w.heap.size A w A w := Tr.refl (Dw := Dw) hA
  have hH : Hp w.heap.size A w [] := Hp.nil
  refine C_seq ?_
  refine C_region ?_
  refine V_y (Y_assign rfl) rfl rfl rfl ?_
  refine V_to (fun _ _ => rfl) ?_
  refine C_seq ?_
  refine C_seq ?_
  refine C_region ?_
  refine V_y (Y_move rfl) rfl rfl rfl ?_
  refine V_y (Y_lenSl h_l rfl Tryz.underlying22 rfl) rfl rfl rfl ?_
  refine V_y (Y_gtr rfl rfl) rfl rfl rfl ?_
  refine V_to (fun _ _ => rfl) ?_
  refine C_cond rfl (fun hc3 => ?_) (fun hc3 => ?_)
  · rw [if_pos hc3] at hm
    refine C_seq ?_
    refine C_region ?_
    refine V_y (Y_assign rfl) rfl rfl rfl ?_
    refine V_to (fun _ _ => rfl) ?_
    obtain rfl := Option.some.inj hm
    refine C_ret ?_
    try simp only [↓inBlock_ret, ↓then_ret]
    exact retQ rfl (Res.one Tryz.results7 rfl) ⟨rfl, hK.kp⟩
  · rw [if_neg (nt hc3)] at hm
    refine C_skip_to (fun _ _ => rfl) ?_
    refine C_seq ?_
    refine C_seq ?_
    refine C_region ?_
    refine V_y (Y_move rfl) rfl rfl rfl ?_
    refine V_y (Y_lenSl h_l rfl Tryz.underlying22 rfl) rfl rfl rfl ?_
    refine V_y (Y_move rfl) rfl rfl rfl ?_
    refine V_to (fun _ _ => rfl) ?_
    have hn25 := Sl.le h_l
    obtain ⟨o4, ho4, hm⟩ := Option.bind_eq_some_iff.1 hm
    refine C_cutG (ι := (Unit × (Nat → Prop))) (fun ⟨s5, A12⟩ => []) (fun ⟨s5, A12⟩ => fun w' => o4 = .fin s5 ∧ Hp w.heap.size A12 w' ([]) ∧ Tr Dw w.heap.size A w A12 w') ?_ ?_
    · refine C_block ?_
      refine C_range ho4 (fun k7 _ a w' => ∃ i : (Nat → Prop), Has ⟨66, [], none⟩ a ([(0, v_l), (12, v_l), (13, .int .i64 (l.length : Int)), (14, .int .i64 (k7 : Int))]) ∧ Hp w.heap.size i w' ([]) ∧ Tr Dw w.heap.size A w i w') (fun a ha => ⟨A, ha.sub ⟨rfl, rfl, rfl, rfl, trivial⟩, ⟨hH, Tr.refl (Dw := Dw) hA⟩⟩) ?_
      rintro K k7 _ a w15 ⟨A16, ha126, hH17, hr6⟩ hle21 K24 h23
      refine C_of ?_ ha126
      replace h_l := Sl.tr (Dw := Dw) h_l hr6
      replace hK := Tr.trans (Dw := Dw) hK hr6
      replace hB := Nat.le_trans hB hr6.ex.size
      replace hA := hr6.new
      replace hH : Hp w.heap.size A16 w15 ([]) := hH17
      refine C_seq (C_region (V_y (Y_lss rfl rfl) rfl rfl rfl (V_to (fun _ _ => rfl) ?_)))
      refine C_seq ?_
      refine C_cond rfl (fun hc26 => ?_) (fun hc26 => ?_)
      · have hlt22 := lt_of_dec hc26
        obtain ⟨x18, h19, h20⟩ := K24 hlt22
        refine C_skip_to (fun _ _ => rfl) ?_
        refine C_seq ?_
        obtain ⟨o27, ho27, h19⟩ := Option.bind_eq_some_iff.1 h19
        refine C_cutG (ι := (Unit × (Nat → Prop))) (fun ⟨s28, A33⟩ => [(0, v_l), (12, v_l), (13, .int .i64 (l.length : Int)), (14, .int .i64 (k7 : Int))]) (fun ⟨s28, A33⟩ => fun w' => o27 = .fin s28 ∧ Hp w.heap.size A33 w' ([]) ∧ Tr Dw w.heap.size A16 w15 A33 w') ?_ ?_
        · have hr29 : Tr Dw w.heap.size A16 w15 A16 w15 := Tr.refl (Dw := Dw) hA
          refine C_block ?_
          refine C_seq ?_
          refine C_region ?_
          refine V_y (Y_move rfl) rfl rfl rfl ?_
          obtain ⟨x35, hx35, ho27⟩ := Option.bind_eq_some_iff.1 ho27
          refine V_indexAddr h_l hx35 Tryz.underlying22 Tryz.sizeOf44 rfl rfl rfl ?_
          intro b36 o37 h38
          obtain ⟨v39, h41, h40⟩ := El_know_Article h38
          refine V_y (Y_loadA h41 Tryz.isAgg44 Tryz.sizeOf44 rfl) rfl rfl rfl ?_
          refine V_alloc Tryz.zeroValue44 rfl ?_
          intro b42 w43 h44
          refine V_y (Y_assign rfl) rfl rfl rfl ?_
          have h49 : (v39).oneCell' = true := by obtain ⟨_, _, e, _⟩ := Sl.form h40; rw [e]; rfl
          refine V_storeNew h44 Tryz.sizeOf44 rfl rfl rfl rfl (by exact (List.forall_mem_cons.2 ⟨rfl, (List.forall_mem_cons.2 ⟨rfl, (List.forall_mem_cons.2 ⟨h49, (fun _ h => nomatch h)⟩)⟩)⟩)) ?_
          intro w45 h46
          have hk51 := h46.kp (Dw := Dw)
          have h50 : El (α := know_Article) A16 w45 b42 0 x35 := h46.el hA ⟨[.int .i64 x35.id_], _, rfl, rfl, ⟨[.int .i64 x35.group], _, rfl, rfl, ⟨_, rfl, h40⟩⟩⟩
          have ht52 := Kp.tr (Dw := Dw) hk51 hA hB
          replace hH := Hp.kp (Dw := Dw) hH hk51
          replace h_l := Sl.tr (Dw := Dw) h_l ht52
          replace h38 := El.tr (Dw := Dw) h38 ht52
          replace h40 := Sl.tr (Dw := Dw) h40 ht52
          replace hK := Tr.trans (Dw := Dw) hK ht52
          replace hr6 := Tr.trans (Dw := Dw) hr6 ht52
          replace hr29 := Tr.trans (Dw := Dw) hr29 ht52
          replace hB := Nat.le_trans hB ht52.ex.size
          replace hA := ht52.new
          refine V_to (fun _ _ => rfl) ?_
          refine C_seq ?_
          refine C_block ?_
          refine C_seq ?_
          refine C_region ?_
          have h53 := El_know_Article_0 h50
          refine V_y (Y_fieldAddr Tryz.underlying44 rfl Tryz.sizeOf3 (by decide) rfl) rfl rfl rfl ?_
          refine V_y (Y_load (El.int h53) Tryz.isAgg3 rfl) rfl rfl rfl ?_
          refine V_call Tryz.call8 rfl rfl rfl rfl (know_within_c w45 x35.id_ 1 3000000) ?_
          rintro _ _ ⟨rfl, rfl⟩
          refine V_y (Y_not rfl) rfl rfl rfl ?_
          refine V_y (Y_assign rfl) rfl rfl rfl ?_
          refine V_to (fun _ _ => rfl) ?_
          refine C_cond rfl (fun hc54 => ?_) (fun hc54 => ?_)
          · rw [if_pos hc54] at ho27
            refine C_seq ?_
            refine C_region ?_
            refine V_y (Y_assign rfl) rfl rfl rfl ?_
            refine V_to (fun _ _ => rfl) ?_
            obtain rfl := Option.some.inj ho27
            rw [Lp.andThen_rt] at h19
            obtain rfl := Option.some.inj h19
            obtain rfl := (h20 : Lp.rt _ = _)
            rw [Lp.andThen_rt] at hm
            obtain rfl := Option.some.inj hm
            refine C_ret ?_
            try simp only [↓inBlock_ret, ↓then_ret]
            exact retQ rfl (Res.one Tryz.results7 rfl) ⟨rfl, hK.kp⟩
          · rw [if_neg (nt hc54)] at ho27
            refine C_seq ?_
            refine C_region_q (Dw := Dw) Tryz_mixed (by kernel_rfl) ?_
            refine VQ_y (fun w' hw' => Y_move rfl) rfl rfl rfl ?_
            refine VQ_y (fun w' hw' => Y_gtr rfl rfl) rfl rfl rfl ?_
            refine VQ_y (fun w' hw' => Y_move rfl) rfl rfl rfl ?_
            obtain ⟨s56, hs56, ho27⟩ := Option.bind_eq_some_iff.1 ho27
            refine VQ_cut 10 (fun _ : Unit => [(0, v_l), (4, .pointer (some ⟨b42, 0, none⟩)), (12, v_l), (13, .int .i64 (l.length : Int)), (14, .int .i64 (k7 : Int)), (37, .bool s56)]) (fun _ => True) ?_ ?_
            · simp only [List.take, List.drop]
              rcases Bool.eq_false_or_eq_true (decide ((0 : Int) < (k7 : Int))) with hc55 | hc55
              · rw [if_pos hc55] at hs56
                refine VQ_ge rfl rfl rfl hc55 ?_
                have h57 := El_know_Article_0 h50
                refine VQ_y (fun w' hw' => Y_fieldAddr Tryz.underlying44 rfl Tryz.sizeOf3 (by decide) rfl) rfl rfl rfl ?_
                refine VQ_ge rfl rfl rfl hc55 ?_
                refine VQ_y (fun w' hw' => Y_load (El.int (El.kp (Dw := Dw) h57 hw')) Tryz.isAgg3 rfl) rfl rfl rfl ?_
                refine VQ_ge rfl rfl rfl hc55 ?_
                refine VQ_y (fun w' hw' => Y_move rfl) rfl rfl rfl ?_
                refine VQ_ge rfl rfl rfl hc55 ?_
                refine VQ_y (fun w' hw' => Y_move rfl) rfl rfl rfl ?_
                refine VQ_ge rfl rfl rfl hc55 ?_
                refine VQ_y (fun w' hw' => Y_subI rfl rfl) rfl rfl rfl ?_
                refine VQ_ge rfl rfl rfl hc55 ?_
                obtain ⟨x58, hx58, hs56⟩ := Option.bind_eq_some_iff.1 hs56
                refine VQ_indexAddr h_l hx58 Tryz.underlying22 Tryz.sizeOf44 rfl rfl rfl ?_
                intro b59 o60 h61
                refine VQ_ge rfl rfl rfl hc55 ?_
                have h62 := El_know_Article_0 h61
                refine VQ_y (fun w' hw' => Y_fieldAddr Tryz.underlying44 rfl Tryz.sizeOf3 (by decide) rfl) rfl rfl rfl ?_
                refine VQ_ge rfl rfl rfl hc55 ?_
                refine VQ_y (fun w' hw' => Y_load (El.int (El.kp (Dw := Dw) h62 hw')) Tryz.isAgg3 rfl) rfl rfl rfl ?_
                refine VQ_ge rfl rfl rfl hc55 ?_
                refine VQ_y (fun w' hw' => Y_leq rfl rfl) rfl rfl rfl ?_
                refine VQ_y (fun _ _ => Y_pick_te rfl hc55 rfl) rfl rfl rfl ?_
                obtain rfl := Option.some.inj hs56
                exact VQ_end fun a ha => ⟨(), ha.sub ⟨rfl, rfl, rfl, rfl, rfl, rfl, trivial⟩, trivial⟩
              · rw [if_neg (nt hc55)] at hs56
                refine VQ_gn rfl rfl rfl hc55 rfl rfl rfl ?_
                refine VQ_gn rfl rfl rfl hc55 rfl rfl rfl ?_
                refine VQ_gn rfl rfl rfl hc55 rfl rfl rfl ?_
                refine VQ_gn rfl rfl rfl hc55 rfl rfl rfl ?_
                refine VQ_gn rfl rfl rfl hc55 rfl rfl rfl ?_
                refine VQ_gn rfl rfl rfl hc55 rfl rfl rfl ?_
                refine VQ_gn rfl rfl rfl hc55 rfl rfl rfl ?_
                refine VQ_gn rfl rfl rfl hc55 rfl rfl rfl ?_
                refine VQ_gn rfl rfl rfl hc55 rfl rfl rfl ?_
                refine VQ_y (fun _ _ => Y_pick_fe rfl hc55 rfl) rfl rfl rfl ?_
                obtain rfl := Option.some.inj hs56
                exact VQ_end fun a ha => ⟨(), ha.sub ⟨rfl, rfl, rfl, rfl, rfl, rfl, trivial⟩, trivial⟩
            simp only [List.take, List.drop]
            rintro _ _
            refine VQ_y (fun w' hw' => Y_assign rfl) rfl rfl rfl ?_
            refine VQ_to (fun _ _ => rfl) (fun w63 hk64 => ?_)
            have ht65 := Kp.tr (Dw := Dw) hk64 hA hB
            replace hH := Hp.kp (Dw := Dw) hH hk64
            replace h_l := Sl.tr (Dw := Dw) h_l ht65
            replace h50 := El.tr (Dw := Dw) h50 ht65
            replace hK := Tr.trans (Dw := Dw) hK ht65
            replace hr6 := Tr.trans (Dw := Dw) hr6 ht65
            replace hr29 := Tr.trans (Dw := Dw) hr29 ht65
            replace hB := Nat.le_trans hB ht65.ex.size
            replace hA := ht65.new
            refine C_cond rfl (fun hc66 => ?_) (fun hc66 => ?_)
            · rw [if_pos hc66] at ho27
              refine C_seq ?_
              refine C_region ?_
              refine V_y (Y_assign rfl) rfl rfl rfl ?_
              refine V_to (fun _ _ => rfl) ?_
              obtain rfl := Option.some.inj ho27
              rw [Lp.andThen_rt] at h19
              obtain rfl := Option.some.inj h19
              obtain rfl := (h20 : Lp.rt _ = _)
              rw [Lp.andThen_rt] at hm
              obtain rfl := Option.some.inj hm
              refine C_ret ?_
              try simp only [↓inBlock_ret, ↓then_ret]
              exact retQ rfl (Res.one Tryz.results7 rfl) ⟨rfl, hK.kp⟩
            · rw [if_neg (nt hc66)] at ho27
              refine C_seq ?_
              refine C_region ?_
              have h67 := El_know_Article_1 h50
              refine V_y (Y_fieldAddr Tryz.underlying44 rfl Tryz.sizeOf3 (by decide) rfl) rfl rfl rfl ?_
              refine V_y (Y_load (El.int h67) Tryz.isAgg3 rfl) rfl rfl rfl ?_
              refine V_call Tryz.call8 rfl rfl rfl rfl (know_within_c w63 x35.group 0 40) ?_
              rintro _ _ ⟨rfl, rfl⟩
              refine V_y (Y_not rfl) rfl rfl rfl ?_
              refine V_y (Y_assign rfl) rfl rfl rfl ?_
              refine V_to (fun _ _ => rfl) ?_
              refine C_cond rfl (fun hc68 => ?_) (fun hc68 => ?_)
              · rw [if_pos hc68] at ho27
                refine C_seq ?_
                refine C_region ?_
                refine V_y (Y_assign rfl) rfl rfl rfl ?_
                refine V_to (fun _ _ => rfl) ?_
                obtain rfl := Option.some.inj ho27
                rw [Lp.andThen_rt] at h19
                obtain rfl := Option.some.inj h19
                obtain rfl := (h20 : Lp.rt _ = _)
                rw [Lp.andThen_rt] at hm
                obtain rfl := Option.some.inj hm
                refine C_ret ?_
                try simp only [↓inBlock_ret, ↓then_ret]
                exact retQ rfl (Res.one Tryz.results7 rfl) ⟨rfl, hK.kp⟩
              · rw [if_neg (nt hc68)] at ho27
                refine C_seq ?_
                refine C_region ?_
                have h69 := El_know_Article_2 h50
                refine V_y (Y_fieldAddr Tryz.underlying44 rfl Tryz.sizeOf32 (by decide) rfl) rfl rfl rfl ?_
                obtain ⟨v70, h71, h72⟩ := El.list h69
                refine V_y (Y_load h71 Tryz.isAgg32 rfl) rfl rfl rfl ?_
                refine V_y (Y_lenSl h72 rfl Tryz.underlying32 rfl) rfl rfl rfl ?_
                refine V_call Tryz.call8 rfl rfl rfl rfl (know_within_c w63 (x35.versions.length : Int) 1 40) ?_
                rintro _ _ ⟨rfl, rfl⟩
                refine V_y (Y_not rfl) rfl rfl rfl ?_
                refine V_y (Y_assign rfl) rfl rfl rfl ?_
                refine V_to (fun _ _ => rfl) ?_
                refine C_cond rfl (fun hc73 => ?_) (fun hc73 => ?_)
                · rw [if_pos hc73] at ho27
                  refine C_seq ?_
                  refine C_region ?_
                  refine V_y (Y_assign rfl) rfl rfl rfl ?_
                  refine V_to (fun _ _ => rfl) ?_
                  obtain rfl := Option.some.inj ho27
                  rw [Lp.andThen_rt] at h19
                  obtain rfl := Option.some.inj h19
                  obtain rfl := (h20 : Lp.rt _ = _)
                  rw [Lp.andThen_rt] at hm
                  obtain rfl := Option.some.inj hm
                  refine C_ret ?_
                  try simp only [↓inBlock_ret, ↓then_ret]
                  exact retQ rfl (Res.one Tryz.results7 rfl) ⟨rfl, hK.kp⟩
                · rw [if_neg (nt hc73)] at ho27
                  refine C_skip_to (fun _ _ => rfl) ?_
                  refine C_seq ?_
                  refine C_region ?_
                  refine V_y (Y_assign rfl) rfl rfl rfl ?_
                  refine V_to (fun _ _ => rfl) ?_
                  refine C_seq ?_
                  refine C_region ?_
                  have h74 := El_know_Article_2 h50
                  refine V_y (Y_fieldAddr Tryz.underlying44 rfl Tryz.sizeOf32 (by decide) rfl) rfl rfl rfl ?_
                  obtain ⟨v75, h76, h77⟩ := El.list h74
                  refine V_y (Y_load h76 Tryz.isAgg32 rfl) rfl rfl rfl ?_
                  refine V_y (Y_lenSl h77 rfl Tryz.underlying32 rfl) rfl rfl rfl ?_
                  refine V_y (Y_move rfl) rfl rfl rfl ?_
                  refine V_to (fun _ _ => rfl) ?_
                  have hn98 := Sl.le h77
                  obtain ⟨o78, ho78, ho27⟩ := Option.bind_eq_some_iff.1 ho27
                  refine C_cutG (ι := (Int × (Nat → Prop))) (fun ⟨s79, A85⟩ => [(0, v_l), (12, v_l), (13, .int .i64 (l.length : Int)), (14, .int .i64 (k7 : Int))]) (fun ⟨s79, A85⟩ => fun w' => o78 = .fin s79 ∧ Hp w.heap.size A85 w' ([]) ∧ Tr Dw w.heap.size A16 w63 A85 w') ?_ ?_
                  · refine C_block ?_
                    refine C_range ho78 (fun k81 s87 a w' => ∃ i : (Nat → Prop), Has ⟨66, [], none⟩ a ([(0, v_l), (5, .int .i64 s87), (12, v_l), (13, .int .i64 (l.length : Int)), (14, .int .i64 (k7 : Int)), (50, v75), (51, .int .i64 (x35.versions.length : Int)), (52, .int .i64 (k81 : Int))]) ∧ Hp w.heap.size i w' ([]) ∧ Tr Dw w.heap.size A16 w63 i w') (fun a ha => ⟨A16, ha.sub ⟨rfl, rfl, rfl, rfl, rfl, rfl, rfl, rfl, trivial⟩, ⟨hH, Tr.refl (Dw := Dw) hA⟩⟩) ?_
                    rintro K k81 s87 a w88 ⟨A89, ha122, hH90, hr80⟩ hle94 K97 h96
                    refine C_of ?_ ha122
                    replace h_l := Sl.tr (Dw := Dw) h_l hr80
                    replace h77 := Sl.tr (Dw := Dw) h77 hr80
                    replace hK := Tr.trans (Dw := Dw) hK hr80
                    replace hr6 := Tr.trans (Dw := Dw) hr6 hr80
                    replace hr29 := Tr.trans (Dw := Dw) hr29 hr80
                    replace hB := Nat.le_trans hB hr80.ex.size
                    replace hA := hr80.new
                    replace hH : Hp w.heap.size A89 w88 ([]) := hH90
                    refine C_seq (C_region (V_y (Y_lss rfl rfl) rfl rfl rfl (V_to (fun _ _ => rfl) ?_)))
                    refine C_seq ?_
                    refine C_cond rfl (fun hc99 => ?_) (fun hc99 => ?_)
                    · have hlt95 := lt_of_dec hc99
                      obtain ⟨x91, h92, h93⟩ := K97 hlt95
                      refine C_skip_to (fun _ _ => rfl) ?_
                      refine C_seq ?_
                      refine C_block ?_
                      refine C_seq ?_
                      refine C_region ?_
                      obtain ⟨x100, hx100, h92⟩ := Option.bind_eq_some_iff.1 h92
                      refine V_indexAddr h77 hx100 Tryz.underlying32 Tryz.sizeOf40 rfl rfl rfl ?_
                      intro b101 o102 h103
                      obtain ⟨h104, _⟩ := El_know_Version h103
                      refine V_y (Y_loadA h104 Tryz.isAgg40 Tryz.sizeOf40 rfl) rfl rfl rfl ?_
                      refine V_alloc Tryz.zeroValue40 rfl ?_
                      intro b105 w106 h107
                      refine V_storeNew h107 Tryz.sizeOf40 rfl rfl rfl rfl (by exact (List.forall_mem_cons.2 ⟨rfl, (List.forall_mem_cons.2 ⟨rfl, (List.forall_mem_cons.2 ⟨rfl, (fun _ h => nomatch h)⟩)⟩)⟩)) ?_
                      intro w108 h109
                      have hk111 := h109.kp (Dw := Dw)
                      have h110 : El (α := know_Version) A89 w108 b105 0 x100 := h109.el hA ⟨[.int .i64 x100.at_], _, rfl, rfl, ⟨[.string x100.title], _, rfl, rfl, rfl⟩⟩
                      have ht112 := Kp.tr (Dw := Dw) hk111 hA hB
                      replace hH := Hp.kp (Dw := Dw) hH hk111
                      replace h_l := Sl.tr (Dw := Dw) h_l ht112
                      replace h77 := Sl.tr (Dw := Dw) h77 ht112
                      replace h103 := El.tr (Dw := Dw) h103 ht112
                      replace hK := Tr.trans (Dw := Dw) hK ht112
                      replace hr6 := Tr.trans (Dw := Dw) hr6 ht112
                      replace hr29 := Tr.trans (Dw := Dw) hr29 ht112
                      replace hr80 := Tr.trans (Dw := Dw) hr80 ht112
                      replace hB := Nat.le_trans hB ht112.ex.size
                      replace hA := ht112.new
                      refine V_to (fun _ _ => rfl) ?_
                      refine C_seq ?_
                      refine C_seq ?_
                      refine C_region ?_
                      obtain ⟨h113, _⟩ := El_know_Version h110
                      refine V_y (Y_loadA h113 Tryz.isAgg40 Tryz.sizeOf40 rfl) rfl rfl rfl ?_
                      refine V_y (Y_move rfl) rfl rfl rfl ?_
                      obtain ⟨x114, hx114, h92⟩ := Option.bind_eq_some_iff.1 h92
                      refine V_call Tryz.call19 rfl rfl rfl rfl (know_checkVersion_c (Dw := Dw) w108 hA (Fz.tr (Dw := Dw) hT hK) x100 s87 hx114) ?_
                      rintro _ w115 ⟨rfl, hk116⟩
                      have ht117 := Kp.tr (Dw := Dw) hk116 hA hB
                      replace hH := Hp.kp (Dw := Dw) hH hk116
                      replace h_l := Sl.tr (Dw := Dw) h_l ht117
                      replace h77 := Sl.tr (Dw := Dw) h77 ht117
                      replace h110 := El.tr (Dw := Dw) h110 ht117
                      replace hK := Tr.trans (Dw := Dw) hK ht117
                      replace hr6 := Tr.trans (Dw := Dw) hr6 ht117
                      replace hr29 := Tr.trans (Dw := Dw) hr29 ht117
                      replace hr80 := Tr.trans (Dw := Dw) hr80 ht117
                      replace hB := Nat.le_trans hB ht117.ex.size
                      replace hA := ht117.new
                      refine V_y (Y_assign rfl) rfl rfl rfl ?_
                      refine V_to (fun _ _ => rfl) ?_
                      refine C_seq ?_
                      refine C_region ?_
                      refine V_y (Y_move rfl) rfl rfl rfl ?_
                      refine V_y (Y_neq rfl rfl) rfl rfl rfl ?_
                      refine V_to (fun _ _ => rfl) ?_
                      refine C_cond rfl (fun hc118 => ?_) (fun hc118 => ?_)
                      · rw [if_pos hc118] at h92
                        refine C_seq ?_
                        refine C_region ?_
                        refine V_y (Y_move rfl) rfl rfl rfl ?_
                        refine V_y (Y_assign rfl) rfl rfl rfl ?_
                        refine V_to (fun _ _ => rfl) ?_
                        obtain rfl := Option.some.inj h92
                        obtain rfl := (h93 : Lp.rt _ = _)
                        rw [Lp.andThen_rt] at ho27
                        obtain rfl := Option.some.inj ho27
                        rw [Lp.andThen_rt] at h19
                        obtain rfl := Option.some.inj h19
                        obtain rfl := (h20 : Lp.rt _ = _)
                        rw [Lp.andThen_rt] at hm
                        obtain rfl := Option.some.inj hm
                        refine C_ret ?_
                        try simp only [↓inBlock_ret, ↓then_ret]
                        exact retQ rfl (Res.one Tryz.results7 rfl) ⟨rfl, hK.kp⟩
                      · rw [if_neg (nt hc118)] at h92
                        refine C_skip_to (fun _ _ => rfl) ?_
                        refine C_region ?_
                        have h119 := El_know_Version_0 h110
                        refine V_y (Y_fieldAddr Tryz.underlying40 rfl Tryz.sizeOf3 (by decide) rfl) rfl rfl rfl ?_
                        refine V_y (Y_load (El.int h119) Tryz.isAgg3 rfl) rfl rfl rfl ?_
                        refine V_y (Y_assign rfl) rfl rfl rfl ?_
                        refine V_to (fun _ _ => rfl) ?_
                        refine C_region ?_
                        refine V_y (Y_addI rfl rfl) rfl rfl rfl ?_
                        refine V_y (Y_move rfl) rfl rfl rfl ?_
                        obtain rfl := Option.some.inj h92
                        refine V_end (fun a ha120 => ?_)
                        exact ⟨x100.at_, hlt95, h93, ⟨A89, ha120.sub ⟨rfl, rfl, rfl, rfl, rfl, rfl, rfl, (congrArg (fun z => some (Value.int .i64 z)) (w64_succ hlt95 hn98)), trivial⟩, ⟨hH, hr80⟩⟩⟩
                    · refine C_exit (fun a ha121 => ?_)
                      exact ⟨(s87, A89), ha121.sub ⟨rfl, rfl, rfl, rfl, trivial⟩, ⟨(h96 (eq_of_dec hle94 hc99)).symm, hH, hr80⟩⟩
                  rintro ⟨s79, A85⟩ w82 ⟨rfl, hH86, hk83⟩ a ha84
                  rw [Lp.andThen_fin] at ho27
                  replace h_l := Sl.tr (Dw := Dw) h_l hk83
                  replace hK := Tr.trans (Dw := Dw) hK hk83
                  replace hr6 := Tr.trans (Dw := Dw) hr6 hk83
                  replace hr29 := Tr.trans (Dw := Dw) hr29 hk83
                  replace hB := Nat.le_trans hB hk83.ex.size
                  replace hA := hk83.new
                  replace hH : Hp w.heap.size A85 w82 ([]) := hH86
                  obtain rfl := Option.some.inj ho27
                  exact ⟨((), A85), ha84.sub ⟨rfl, rfl, rfl, rfl, trivial⟩, ⟨rfl, hH, hr29⟩⟩
        rintro ⟨s28, A33⟩ w30 ⟨rfl, hH34, hk31⟩ a ha32
        rw [Lp.andThen_fin] at h19
        replace h_l := Sl.tr (Dw := Dw) h_l hk31
        replace hK := Tr.trans (Dw := Dw) hK hk31
        replace hr6 := Tr.trans (Dw := Dw) hr6 hk31
        replace hB := Nat.le_trans hB hk31.ex.size
        replace hA := hk31.new
        replace hH : Hp w.heap.size A33 w30 ([]) := hH34
        refine C_at (n := ⟨66, [], none⟩) (fun _ _ => rfl) ?_ ha32
        refine C_region ?_
        refine V_y (Y_addI rfl rfl) rfl rfl rfl ?_
        refine V_y (Y_move rfl) rfl rfl rfl ?_
        obtain rfl := Option.some.inj h19
        refine V_end (fun a ha124 => ?_)
        exact ⟨(), hlt22, h20, ⟨A33, ha124.sub ⟨rfl, rfl, rfl, (congrArg (fun z => some (Value.int .i64 z)) (w64_succ hlt22 hn25)), trivial⟩, ⟨hH, hr6⟩⟩⟩
      · refine C_exit (fun a ha125 => ?_)
        exact ⟨((), A16), ha125.sub trivial, ⟨(h23 (eq_of_dec hle21 hc26)).symm, hH, hr6⟩⟩
    rintro ⟨s5, A12⟩ w9 ⟨rfl, hH13, hk10⟩ a ha11
    rw [Lp.andThen_fin] at hm
    replace hK := Tr.trans (Dw := Dw) hK hk10
    replace hB := Nat.le_trans hB hk10.ex.size
    replace hA := hk10.new
    replace hH : Hp w.heap.size A12 w9 ([]) := hH13
    refine C_at (n := ⟨66, [], none⟩) (fun _ _ => rfl) ?_ ha11
    refine C_seq ?_
    refine C_region ?_
    refine V_y (Y_assign rfl) rfl rfl rfl ?_
    refine V_to (fun _ _ => rfl) ?_
    obtain rfl := Option.some.inj hm
    refine C_ret ?_
    try simp only [↓inBlock_ret, ↓then_ret]
    exact retQ rfl (Res.one Tryz.results7 rfl) ⟨rfl, hK.kp⟩

set_option maxRecDepth 4000 in
set_option maxHeartbeats 4000000 in
theorem know_current_c (w : World) {A : Nat → Prop} {B : Nat} (hB : B ≤ w.heap.size) (hA : ∀ b, w.heap.size ≤ b → A b) (l : (List know_Article)) (v_l : Value) (h_l : Sl A w v_l l) (m : Int) (wanted : Int → Option Bool) (wanted_f : FuncId) (wanted_a wanted_c : Array Value) (wanted_call : ∀ (args : Array Value) (w : World), (callFunc wanted_f args).run Tryz.prog w = .ok (.enter wanted_f args) w) (wanted_spec : ∀ (w1 : World) (A1 : Nat → Prop), Tr Dw B A w A1 w1 → (∀ b, w1.heap.size ≤ b → A1 b) → ∀ (y0 : Int) (r : Bool), wanted y0 = some r → Ret Tryz.prog wanted_f (wanted_a ++ #[.int .i64 y0] ++ wanted_c) w1 fun v w' => v = .bool r ∧ Kp Dw w1 w') {L : List Ob} (hH : Hp B A w (L)) {r : ((List know_Entry) × (List know_Version))} (hm : know_current l m wanted = some r) : Ret Tryz.prog 9 #[v_l, .int .i64 m, .func (.func wanted_f) wanted_a wanted_c] w fun v w' => ∃ s0, ∃ s1, ∃ A1 : Nat → Prop, v = .tuple #[s0, s1] ∧ Hp B A1 w' (obS (α := know_Entry) 38 s0 r.1 :: obS (α := know_Version) 40 s1 r.2 :: L) ∧ Tr Dw B A w A1 w' := by
  unfold know_current at hm
  refine enter Tryz.func9 rfl Tryz.ntmps9 rfl ?_
  have hK : Tr Dw B A w A w := Tr.refl (Dw := Dw) hA
  refine C_seq ?_
  refine C_region ?_
  refine V_y (Y_assign rfl) rfl rfl rfl ?_
  refine V_y (Y_assign rfl) rfl rfl rfl ?_
  refine V_to (fun _ _ => rfl) ?_
  refine C_seq ?_
  refine C_region ?_
  refine V_y (Y_assign rfl) rfl rfl rfl ?_
  refine V_to (fun _ _ => rfl) ?_
  refine C_seq ?_
  refine C_region ?_
  refine V_y (Y_assign rfl) rfl rfl rfl ?_
  refine V_to (fun _ _ => rfl) ?_
  refine C_seq ?_
  refine C_seq ?_
  refine C_region ?_
  refine V_y (Y_move rfl) rfl rfl rfl ?_
  refine V_y (Y_lenSl h_l rfl Tryz.underlying22 rfl) rfl rfl rfl ?_
  refine V_y (Y_move rfl) rfl rfl rfl ?_
  refine V_to (fun _ _ => rfl) ?_
  replace hH : Hp B A w (obS (α := know_Entry) 38 (.slice none 0 0) ([] : (List know_Entry)) :: L) := Hp.addNil (α := know_Entry) (e := 38) hH
  replace hH : Hp B A w (obS (α := know_Version) 40 (.slice none 0 0) ([] : (List know_Version)) :: obS (α := know_Entry) 38 (.slice none 0 0) ([] : (List know_Entry)) :: L) := Hp.addNil (α := know_Version) (e := 40) hH
  have hn31 := Sl.le h_l
  obtain ⟨o3, ho3, hm⟩ := Option.bind_eq_some_iff.1 hm
  refine C_cutG (ι := (((List know_Entry) × (List know_Version)) × Value × Value × (Nat → Prop))) (fun ⟨s4, v10, v12, A14⟩ => [(8, v10), (9, v12)]) (fun ⟨s4, v10, v12, A14⟩ => fun w' => o3 = .fin s4 ∧ Hp B A14 w' (obS (α := know_Version) 40 v12 s4.2 :: obS (α := know_Entry) 38 v10 s4.1 :: L) ∧ Tr Dw B A w A14 w') ?_ ?_
  · refine C_block ?_
    refine C_range ho3 (fun k6 s16 a w' => ∃ i : (Value × Value × (Nat → Prop)), Has ⟨76, [], none⟩ a ([(1, .int .i64 m), (2, .func (.func wanted_f) wanted_a wanted_c), (8, i.1), (9, i.2.1), (16, v_l), (17, .int .i64 (l.length : Int)), (18, .int .i64 (k6 : Int))]) ∧ Hp B i.2.2 w' (obS (α := know_Version) 40 i.2.1 s16.2 :: obS (α := know_Entry) 38 i.1 s16.1 :: L) ∧ Tr Dw B A w i.2.2 w') (fun a ha => ⟨(.slice none 0 0, .slice none 0 0, A), ha.sub ⟨rfl, rfl, rfl, rfl, rfl, rfl, rfl, trivial⟩, ⟨hH, Tr.refl (Dw := Dw) hA⟩⟩) ?_
    rintro K k6 s16 a w17 ⟨⟨v18, v20, A22⟩, ha190, hH23, hr5⟩ hle27 K30 h29
    refine C_of ?_ ha190
    replace h_l := Sl.tr (Dw := Dw) h_l hr5
    replace hK := Tr.trans (Dw := Dw) hK hr5
    replace hB := Nat.le_trans hB hr5.ex.size
    replace hA := hr5.new
    replace hH : Hp B A22 w17 (obS (α := know_Version) 40 v20 s16.2 :: obS (α := know_Entry) 38 v18 s16.1 :: L) := hH23
    refine C_seq (C_region (V_y (Y_lss rfl rfl) rfl rfl rfl (V_to (fun _ _ => rfl) ?_)))
    refine C_seq ?_
    refine C_cond rfl (fun hc32 => ?_) (fun hc32 => ?_)
    · have hlt28 := lt_of_dec hc32
      obtain ⟨x24, h25, h26⟩ := K30 hlt28
      refine C_skip_to (fun _ _ => rfl) ?_
      refine C_seq ?_
      obtain ⟨s34, ho33, h25⟩ := Option.bind_eq_some_iff.1 h25
      refine C_cutG (ι := (Value × Value × (Nat → Prop))) (fun ⟨v36, v38, A43⟩ => [(1, .int .i64 m), (2, .func (.func wanted_f) wanted_a wanted_c), (8, v36), (9, v38), (16, v_l), (17, .int .i64 (l.length : Int)), (18, .int .i64 (k6 : Int))]) (fun ⟨v36, v38, A43⟩ => fun w' => Hp B A43 w' (obS (α := know_Version) 40 v38 s34.2 :: obS (α := know_Entry) 38 v36 s34.1 :: L) ∧ Tr Dw B A22 w17 A43 w') ?_ ?_
      · have hr35 : Tr Dw B A22 w17 A22 w17 := Tr.refl (Dw := Dw) hA
        refine C_block ?_
        refine C_seq ?_
        refine C_region ?_
        obtain ⟨x45, hx45, ho33⟩ := Option.bind_eq_some_iff.1 ho33
        refine V_indexAddr h_l hx45 Tryz.underlying22 Tryz.sizeOf44 rfl rfl rfl ?_
        intro b46 o47 h48
        obtain ⟨v49, h51, h50⟩ := El_know_Article h48
        refine V_y (Y_loadA h51 Tryz.isAgg44 Tryz.sizeOf44 rfl) rfl rfl rfl ?_
        refine V_alloc Tryz.zeroValue44 rfl ?_
        intro b52 w53 h54
        have h59 : (v49).oneCell' = true := by obtain ⟨_, _, e, _⟩ := Sl.form h50; rw [e]; rfl
        refine V_storeNew h54 Tryz.sizeOf44 rfl rfl rfl rfl (by exact (List.forall_mem_cons.2 ⟨rfl, (List.forall_mem_cons.2 ⟨rfl, (List.forall_mem_cons.2 ⟨h59, (fun _ h => nomatch h)⟩)⟩)⟩)) ?_
        intro w55 h56
        have hk61 := h56.kp (Dw := Dw)
        have h60 : El (α := know_Article) A22 w55 b52 0 x45 := h56.el hA ⟨[.int .i64 x45.id_], _, rfl, rfl, ⟨[.int .i64 x45.group], _, rfl, rfl, ⟨_, rfl, h50⟩⟩⟩
        have ht62 := Kp.tr (Dw := Dw) hk61 hA hB
        replace hH := Hp.kp (Dw := Dw) hH hk61
        replace h_l := Sl.tr (Dw := Dw) h_l ht62
        replace h48 := El.tr (Dw := Dw) h48 ht62
        replace h50 := Sl.tr (Dw := Dw) h50 ht62
        replace hK := Tr.trans (Dw := Dw) hK ht62
        replace hr5 := Tr.trans (Dw := Dw) hr5 ht62
        replace hr35 := Tr.trans (Dw := Dw) hr35 ht62
        replace hB := Nat.le_trans hB ht62.ex.size
        replace hA := ht62.new
        refine V_to (fun _ _ => rfl) ?_
        refine C_seq ?_
        refine C_region ?_
        refine V_y (Y_assign rfl) rfl rfl rfl ?_
        refine V_to (fun _ _ => rfl) ?_
        refine C_seq ?_
        refine C_seq ?_
        refine C_region ?_
        have h63 := El_know_Article_2 h60
        refine V_y (Y_fieldAddr Tryz.underlying44 rfl Tryz.sizeOf32 (by decide) rfl) rfl rfl rfl ?_
        obtain ⟨v64, h65, h66⟩ := El.list h63
        refine V_y (Y_load h65 Tryz.isAgg32 rfl) rfl rfl rfl ?_
        refine V_y (Y_lenSl h66 rfl Tryz.underlying32 rfl) rfl rfl rfl ?_
        refine V_y (Y_move rfl) rfl rfl rfl ?_
        refine V_to (fun _ _ => rfl) ?_
        have hn87 := Sl.le h66
        obtain ⟨o67, ho67, ho33⟩ := Option.bind_eq_some_iff.1 ho33
        refine C_cutG (ι := (Int × (Nat → Prop))) (fun ⟨s68, A74⟩ => [(1, .int .i64 m), (2, .func (.func wanted_f) wanted_a wanted_c), (8, v18), (9, v20), (11, .pointer (some ⟨b52, 0, none⟩)), (12, .int .i64 s68), (16, v_l), (17, .int .i64 (l.length : Int)), (18, .int .i64 (k6 : Int))]) (fun ⟨s68, A74⟩ => fun w' => o67 = .fin s68 ∧ Hp B A74 w' (obS (α := know_Version) 40 v20 s16.2 :: obS (α := know_Entry) 38 v18 s16.1 :: L) ∧ Tr Dw B A22 w55 A74 w') ?_ ?_
        · refine C_block ?_
          refine C_range ho67 (fun k70 s76 a w' => ∃ i : (Nat → Prop), Has ⟨76, [], none⟩ a ([(1, .int .i64 m), (2, .func (.func wanted_f) wanted_a wanted_c), (8, v18), (9, v20), (11, .pointer (some ⟨b52, 0, none⟩)), (12, .int .i64 s76), (16, v_l), (17, .int .i64 (l.length : Int)), (18, .int .i64 (k6 : Int)), (23, v64), (24, .int .i64 (x45.versions.length : Int)), (25, .int .i64 (k70 : Int))]) ∧ Hp B i w' (obS (α := know_Version) 40 v20 s16.2 :: obS (α := know_Entry) 38 v18 s16.1 :: L) ∧ Tr Dw B A22 w55 i w') (fun a ha => ⟨A22, ha.sub ⟨rfl, rfl, rfl, rfl, rfl, rfl, rfl, rfl, rfl, rfl, rfl, rfl, trivial⟩, ⟨hH, Tr.refl (Dw := Dw) hA⟩⟩) ?_
          rintro K k70 s76 a w77 ⟨A78, ha123, hH79, hr69⟩ hle83 K86 h85
          refine C_of ?_ ha123
          replace h_l := Sl.tr (Dw := Dw) h_l hr69
          replace h60 := El.tr (Dw := Dw) h60 hr69
          replace h66 := Sl.tr (Dw := Dw) h66 hr69
          replace hK := Tr.trans (Dw := Dw) hK hr69
          replace hr5 := Tr.trans (Dw := Dw) hr5 hr69
          replace hr35 := Tr.trans (Dw := Dw) hr35 hr69
          replace hB := Nat.le_trans hB hr69.ex.size
          replace hA := hr69.new
          replace hH : Hp B A78 w77 (obS (α := know_Version) 40 v20 s16.2 :: obS (α := know_Entry) 38 v18 s16.1 :: L) := hH79
          refine C_seq (C_region (V_y (Y_lss rfl rfl) rfl rfl rfl (V_to (fun _ _ => rfl) ?_)))
          refine C_seq ?_
          refine C_cond rfl (fun hc88 => ?_) (fun hc88 => ?_)
          · have hlt84 := lt_of_dec hc88
            obtain ⟨x80, h81, h82⟩ := K86 hlt84
            refine C_skip_to (fun _ _ => rfl) ?_
            refine C_seq ?_
            obtain ⟨s90, ho89, h81⟩ := Option.bind_eq_some_iff.1 h81
            refine C_cutG (ι := (Nat → Prop)) (fun (A95 : (Nat → Prop)) => [(1, .int .i64 m), (2, .func (.func wanted_f) wanted_a wanted_c), (8, v18), (9, v20), (11, .pointer (some ⟨b52, 0, none⟩)), (12, .int .i64 s90), (16, v_l), (17, .int .i64 (l.length : Int)), (18, .int .i64 (k6 : Int)), (23, v64), (24, .int .i64 (x45.versions.length : Int)), (25, .int .i64 (k70 : Int))]) (fun (A95 : (Nat → Prop)) => fun w' => Hp B A95 w' (obS (α := know_Version) 40 v20 s16.2 :: obS (α := know_Entry) 38 v18 s16.1 :: L) ∧ Tr Dw B A78 w77 A95 w') ?_ ?_
            · have hr91 : Tr Dw B A78 w77 A78 w77 := Tr.refl (Dw := Dw) hA
              refine C_block ?_
              refine C_seq ?_
              refine C_region ?_
              refine V_y (Y_move rfl) rfl rfl rfl ?_
              obtain ⟨x97, hx97, ho89⟩ := Option.bind_eq_some_iff.1 ho89
              refine V_indexAddr h66 hx97 Tryz.underlying32 Tryz.sizeOf40 rfl rfl rfl ?_
              intro b98 o99 h100
              obtain ⟨h101, _⟩ := El_know_Version h100
              refine V_y (Y_loadA h101 Tryz.isAgg40 Tryz.sizeOf40 rfl) rfl rfl rfl ?_
              refine V_alloc Tryz.zeroValue40 rfl ?_
              intro b102 w103 h104
              refine V_y (Y_assign rfl) rfl rfl rfl ?_
              refine V_storeNew h104 Tryz.sizeOf40 rfl rfl rfl rfl (by exact (List.forall_mem_cons.2 ⟨rfl, (List.forall_mem_cons.2 ⟨rfl, (List.forall_mem_cons.2 ⟨rfl, (fun _ h => nomatch h)⟩)⟩)⟩)) ?_
              intro w105 h106
              have hk108 := h106.kp (Dw := Dw)
              have h107 : El (α := know_Version) A78 w105 b102 0 x97 := h106.el hA ⟨[.int .i64 x97.at_], _, rfl, rfl, ⟨[.string x97.title], _, rfl, rfl, rfl⟩⟩
              have ht109 := Kp.tr (Dw := Dw) hk108 hA hB
              replace hH := Hp.kp (Dw := Dw) hH hk108
              replace h_l := Sl.tr (Dw := Dw) h_l ht109
              replace h60 := El.tr (Dw := Dw) h60 ht109
              replace h66 := Sl.tr (Dw := Dw) h66 ht109
              replace h100 := El.tr (Dw := Dw) h100 ht109
              replace hK := Tr.trans (Dw := Dw) hK ht109
              replace hr5 := Tr.trans (Dw := Dw) hr5 ht109
              replace hr35 := Tr.trans (Dw := Dw) hr35 ht109
              replace hr69 := Tr.trans (Dw := Dw) hr69 ht109
              replace hr91 := Tr.trans (Dw := Dw) hr91 ht109
              replace hB := Nat.le_trans hB ht109.ex.size
              replace hA := ht109.new
              refine V_to (fun _ _ => rfl) ?_
              refine C_seq ?_
              refine C_region ?_
              have h110 := El_know_Version_0 h107
              refine V_y (Y_fieldAddr Tryz.underlying40 rfl Tryz.sizeOf3 (by decide) rfl) rfl rfl rfl ?_
              refine V_y (Y_load (El.int h110) Tryz.isAgg3 rfl) rfl rfl rfl ?_
              refine V_y (Y_move rfl) rfl rfl rfl ?_
              refine V_y (Y_leq rfl rfl) rfl rfl rfl ?_
              refine V_to (fun _ _ => rfl) ?_
              obtain ⟨s112, ho111, ho89⟩ := Option.bind_eq_some_iff.1 ho89
              refine C_cutG (ι := Unit) (fun (_ : Unit) => [(1, .int .i64 m), (2, .func (.func wanted_f) wanted_a wanted_c), (8, v18), (9, v20), (11, .pointer (some ⟨b52, 0, none⟩)), (12, .int .i64 s112), (16, v_l), (17, .int .i64 (l.length : Int)), (18, .int .i64 (k6 : Int)), (23, v64), (24, .int .i64 (x45.versions.length : Int)), (25, .int .i64 (k70 : Int))]) (fun (_ : Unit) => fun w' => w105 = w') ?_ ?_
              · refine C_cond rfl (fun hc117 => ?_) (fun hc117 => ?_)
                · rw [if_pos hc117] at ho111
                  refine C_region ?_
                  refine V_y (Y_move rfl) rfl rfl rfl ?_
                  refine V_y (Y_assign rfl) rfl rfl rfl ?_
                  obtain rfl := Option.some.inj ho111
                  refine V_end (fun a ha118 => ?_)
                  exact ⟨(), ha118.sub ⟨rfl, rfl, rfl, rfl, rfl, rfl, rfl, rfl, rfl, rfl, rfl, rfl, trivial⟩, rfl⟩
                · rw [if_neg (nt hc117)] at ho111
                  obtain rfl := Option.some.inj ho111
                  refine C_skip (fun a ha119 => ?_)
                  exact ⟨(), ha119.sub ⟨rfl, rfl, rfl, rfl, rfl, rfl, rfl, rfl, rfl, rfl, rfl, rfl, trivial⟩, rfl⟩
              rintro _ _ rfl a ha116
              obtain rfl := Option.some.inj ho89
              exact ⟨A78, ha116.sub ⟨rfl, rfl, rfl, rfl, rfl, rfl, rfl, rfl, rfl, rfl, rfl, rfl, trivial⟩, ⟨hH, hr91⟩⟩
            rintro A95 w92 ⟨hH96, hk93⟩ a ha94
            replace h_l := Sl.tr (Dw := Dw) h_l hk93
            replace h60 := El.tr (Dw := Dw) h60 hk93
            replace h66 := Sl.tr (Dw := Dw) h66 hk93
            replace hK := Tr.trans (Dw := Dw) hK hk93
            replace hr5 := Tr.trans (Dw := Dw) hr5 hk93
            replace hr35 := Tr.trans (Dw := Dw) hr35 hk93
            replace hr69 := Tr.trans (Dw := Dw) hr69 hk93
            replace hB := Nat.le_trans hB hk93.ex.size
            replace hA := hk93.new
            replace hH : Hp B A95 w92 (obS (α := know_Version) 40 v20 s16.2 :: obS (α := know_Entry) 38 v18 s16.1 :: L) := hH96
            refine C_at (n := ⟨76, [], none⟩) (fun _ _ => rfl) ?_ ha94
            refine C_region ?_
            refine V_y (Y_addI rfl rfl) rfl rfl rfl ?_
            refine V_y (Y_move rfl) rfl rfl rfl ?_
            obtain rfl := Option.some.inj h81
            refine V_end (fun a ha121 => ?_)
            exact ⟨s90, hlt84, h82, ⟨A95, ha121.sub ⟨rfl, rfl, rfl, rfl, rfl, rfl, rfl, rfl, rfl, rfl, rfl, (congrArg (fun z => some (Value.int .i64 z)) (w64_succ hlt84 hn87)), trivial⟩, ⟨hH, hr69⟩⟩⟩
          · refine C_exit (fun a ha122 => ?_)
            exact ⟨(s76, A78), ha122.sub ⟨rfl, rfl, rfl, rfl, rfl, rfl, rfl, rfl, rfl, trivial⟩, ⟨(h85 (eq_of_dec hle83 hc88)).symm, hH, hr69⟩⟩
        rintro ⟨s68, A74⟩ w71 ⟨rfl, hH75, hk72⟩ a ha73
        rw [Lp.andThen_fin] at ho33
        replace h_l := Sl.tr (Dw := Dw) h_l hk72
        replace h60 := El.tr (Dw := Dw) h60 hk72
        replace hK := Tr.trans (Dw := Dw) hK hk72
        replace hr5 := Tr.trans (Dw := Dw) hr5 hk72
        replace hr35 := Tr.trans (Dw := Dw) hr35 hk72
        replace hB := Nat.le_trans hB hk72.ex.size
        replace hA := hk72.new
        replace hH : Hp B A74 w71 (obS (α := know_Version) 40 v20 s16.2 :: obS (α := know_Entry) 38 v18 s16.1 :: L) := hH75
        refine C_at (n := ⟨76, [], none⟩) (fun _ _ => rfl) ?_ ha73
        refine C_seq ?_
        refine C_seq ?_
        refine C_region ?_
        refine V_y (Y_move rfl) rfl rfl rfl ?_
        have h124 := El_know_Article_1 h60
        refine V_y (Y_fieldAddr Tryz.underlying44 rfl Tryz.sizeOf3 (by decide) rfl) rfl rfl rfl ?_
        refine V_y (Y_load (El.int h124) Tryz.isAgg3 rfl) rfl rfl rfl ?_
        obtain ⟨x125, hx125, ho33⟩ := Option.bind_eq_some_iff.1 ho33
        refine V_call wanted_call rfl rfl rfl rfl (wanted_spec w71 _ hK hA x45.group _ hx125) ?_
        rintro _ w126 ⟨rfl, hk127⟩
        have ht128 := Kp.tr (Dw := Dw) hk127 hA hB
        replace hH := Hp.kp (Dw := Dw) hH hk127
        replace h_l := Sl.tr (Dw := Dw) h_l ht128
        replace h60 := El.tr (Dw := Dw) h60 ht128
        replace h124 := El.tr (Dw := Dw) h124 ht128
        replace hK := Tr.trans (Dw := Dw) hK ht128
        replace hr5 := Tr.trans (Dw := Dw) hr5 ht128
        replace hr35 := Tr.trans (Dw := Dw) hr35 ht128
        replace hB := Nat.le_trans hB ht128.ex.size
        replace hA := ht128.new
        refine V_y (Y_not rfl) rfl rfl rfl ?_
        refine V_y (Y_move rfl) rfl rfl rfl ?_
        refine V_cut 3 (fun _ : Unit => [(1, .int .i64 m), (2, .func (.func wanted_f) wanted_a wanted_c), (8, v18), (9, v20), (11, .pointer (some ⟨b52, 0, none⟩)), (12, .int .i64 s68), (16, v_l), (17, .int .i64 (l.length : Int)), (18, .int .i64 (k6 : Int)), (44, .bool ((!x125) || (decide (s68 < 0))))]) (fun _ w' => w126 = w') ?_ ?_
        · simp only [List.take, List.drop]
          rcases Bool.eq_false_or_eq_true (!x125) with hc129 | hc129
          · refine V_gn rfl rfl rfl hc129 rfl rfl rfl ?_
            refine V_gn rfl rfl rfl hc129 rfl rfl rfl ?_
            refine V_y (Y_pick_te rfl hc129 rfl) rfl rfl rfl ?_
            exact V_end fun a ha => ⟨(), ha.sub ⟨rfl, rfl, rfl, rfl, rfl, rfl, rfl, rfl, rfl, (by rw [hc129]; rfl), trivial⟩, rfl⟩
          · refine V_ge rfl rfl rfl hc129 ?_
            refine V_y (Y_move rfl) rfl rfl rfl ?_
            refine V_ge rfl rfl rfl hc129 ?_
            refine V_y (Y_lss rfl rfl) rfl rfl rfl ?_
            refine V_y (Y_pick_fe rfl hc129 rfl) rfl rfl rfl ?_
            exact V_end fun a ha => ⟨(), ha.sub ⟨rfl, rfl, rfl, rfl, rfl, rfl, rfl, rfl, rfl, (by rw [hc129]; rfl), trivial⟩, rfl⟩
        simp only [List.take, List.drop]
        rintro _ _ rfl
        refine V_y (Y_move rfl) rfl rfl rfl ?_
        obtain ⟨s132, hs132, ho33⟩ := Option.bind_eq_some_iff.1 ho33
        refine V_cut 8 (fun _ : Unit => [(1, .int .i64 m), (2, .func (.func wanted_f) wanted_a wanted_c), (8, v18), (9, v20), (11, .pointer (some ⟨b52, 0, none⟩)), (12, .int .i64 s68), (16, v_l), (17, .int .i64 (l.length : Int)), (18, .int .i64 (k6 : Int)), (53, .bool s132)]) (fun _ w' => w126 = w') ?_ ?_
        · simp only [List.take, List.drop]
          rcases Bool.eq_false_or_eq_true (((!x125) || (decide (s68 < 0)))) with hc131 | hc131
          · rw [if_pos hc131] at hs132
            refine V_gn rfl rfl rfl hc131 rfl rfl rfl ?_
            refine V_gn rfl rfl rfl hc131 rfl rfl rfl ?_
            refine V_gn rfl rfl rfl hc131 rfl rfl rfl ?_
            refine V_gn rfl rfl rfl hc131 rfl rfl rfl ?_
            refine V_gn rfl rfl rfl hc131 rfl rfl rfl ?_
            refine V_gn rfl rfl rfl hc131 rfl rfl rfl ?_
            refine V_gn rfl rfl rfl hc131 rfl rfl rfl ?_
            refine V_y (Y_pick_te rfl hc131 rfl) rfl rfl rfl ?_
            obtain rfl := Option.some.inj hs132
            exact V_end fun a ha => ⟨(), ha.sub ⟨rfl, rfl, rfl, rfl, rfl, rfl, rfl, rfl, rfl, rfl, trivial⟩, rfl⟩
          · rw [if_neg (nt hc131)] at hs132
            refine V_ge rfl rfl rfl hc131 ?_
            have h133 := El_know_Article_2 h60
            refine V_y (Y_fieldAddr Tryz.underlying44 rfl Tryz.sizeOf32 (by decide) rfl) rfl rfl rfl ?_
            refine V_ge rfl rfl rfl hc131 ?_
            obtain ⟨v134, h135, h136⟩ := El.list h133
            refine V_y (Y_load h135 Tryz.isAgg32 rfl) rfl rfl rfl ?_
            refine V_ge rfl rfl rfl hc131 ?_
            refine V_y (Y_move rfl) rfl rfl rfl ?_
            refine V_ge rfl rfl rfl hc131 ?_
            obtain ⟨x137, hx137, hs132⟩ := Option.bind_eq_some_iff.1 hs132
            refine V_indexAddr h136 hx137 Tryz.underlying32 Tryz.sizeOf40 rfl rfl rfl ?_
            intro b138 o139 h140
            refine V_ge rfl rfl rfl hc131 ?_
            have h141 := El_know_Version_1 h140
            refine V_y (Y_fieldAddr Tryz.underlying40 rfl Tryz.sizeOf9 (by decide) rfl) rfl rfl rfl ?_
            refine V_ge rfl rfl rfl hc131 ?_
            refine V_y (Y_load (El.str h141) Tryz.isAgg9 rfl) rfl rfl rfl ?_
            refine V_ge rfl rfl rfl hc131 ?_
            refine V_y (Y_seql rfl rfl) rfl rfl rfl ?_
            refine V_y (Y_pick_fe rfl hc131 rfl) rfl rfl rfl ?_
            obtain rfl := Option.some.inj hs132
            exact V_end fun a ha => ⟨(), ha.sub ⟨rfl, rfl, rfl, rfl, rfl, rfl, rfl, rfl, rfl, rfl, trivial⟩, rfl⟩
        simp only [List.take, List.drop]
        rintro _ _ rfl
        refine V_to (fun _ _ => rfl) ?_
        refine C_cond rfl (fun hc142 => ?_) (fun hc142 => ?_)
        · rw [if_pos hc142] at ho33
          obtain rfl := Option.some.inj ho33
          refine C_exit (fun a ha143 => ?_)
          exact ⟨(v18, v20, A74), ha143.sub ⟨rfl, rfl, rfl, rfl, rfl, rfl, rfl, trivial⟩, ⟨hH, hr35⟩⟩
        · rw [if_neg (nt hc142)] at ho33
          refine C_skip_to (fun _ _ => rfl) ?_
          refine C_seq ?_
          refine C_region ?_
          have h144 := El_know_Article_2 h60
          refine V_y (Y_fieldAddr Tryz.underlying44 rfl Tryz.sizeOf32 (by decide) rfl) rfl rfl rfl ?_
          obtain ⟨v145, h146, h147⟩ := El.list h144
          refine V_y (Y_load h146 Tryz.isAgg32 rfl) rfl rfl rfl ?_
          refine V_y (Y_move rfl) rfl rfl rfl ?_
          obtain ⟨x148, hx148, ho33⟩ := Option.bind_eq_some_iff.1 ho33
          refine V_indexAddr h147 hx148 Tryz.underlying32 Tryz.sizeOf40 rfl rfl rfl ?_
          intro b149 o150 h151
          obtain ⟨h152, _⟩ := El_know_Version h151
          refine V_y (Y_loadA h152 Tryz.isAgg40 Tryz.sizeOf40 rfl) rfl rfl rfl ?_
          refine V_alloc Tryz.zeroValue40 rfl ?_
          intro b153 w154 h155
          refine V_storeNew h155 Tryz.sizeOf40 rfl rfl rfl rfl (by exact (List.forall_mem_cons.2 ⟨rfl, (List.forall_mem_cons.2 ⟨rfl, (List.forall_mem_cons.2 ⟨rfl, (fun _ h => nomatch h)⟩)⟩)⟩)) ?_
          intro w156 h157
          have hk159 := h157.kp (Dw := Dw)
          have h158 : El (α := know_Version) A74 w156 b153 0 x148 := h157.el hA ⟨[.int .i64 x148.at_], _, rfl, rfl, ⟨[.string x148.title], _, rfl, rfl, rfl⟩⟩
          have ht160 := Kp.tr (Dw := Dw) hk159 hA hB
          replace hH := Hp.kp (Dw := Dw) hH hk159
          replace h_l := Sl.tr (Dw := Dw) h_l ht160
          replace h60 := El.tr (Dw := Dw) h60 ht160
          replace h144 := El.tr (Dw := Dw) h144 ht160
          replace h147 := Sl.tr (Dw := Dw) h147 ht160
          replace h151 := El.tr (Dw := Dw) h151 ht160
          replace hK := Tr.trans (Dw := Dw) hK ht160
          replace hr5 := Tr.trans (Dw := Dw) hr5 ht160
          replace hr35 := Tr.trans (Dw := Dw) hr35 ht160
          replace hB := Nat.le_trans hB ht160.ex.size
          replace hA := ht160.new
          refine V_to (fun _ _ => rfl) ?_
          refine C_seq ?_
          refine C_region ?_
          refine V_y (Y_move rfl) rfl rfl rfl ?_
          have h161 := El_know_Article_0 h60
          refine V_y (Y_fieldAddr Tryz.underlying44 rfl Tryz.sizeOf3 (by decide) rfl) rfl rfl rfl ?_
          refine V_y (Y_load (El.int h161) Tryz.isAgg3 rfl) rfl rfl rfl ?_
          have h162 := El_know_Version_1 h158
          refine V_y (Y_fieldAddr Tryz.underlying40 rfl Tryz.sizeOf9 (by decide) rfl) rfl rfl rfl ?_
          refine V_y (Y_load (El.str h162) Tryz.isAgg9 rfl) rfl rfl rfl ?_
          have h163 := El_know_Version_2 h158
          refine V_y (Y_fieldAddr Tryz.underlying40 rfl Tryz.sizeOf9 (by decide) rfl) rfl rfl rfl ?_
          refine V_y (Y_load (El.str h163) Tryz.isAgg9 rfl) rfl rfl rfl ?_
          refine V_y (Y_build Tryz.underlying38 Tryz.zeroValue38 (Tryz_places38 _ Tryz.underlying38) rfl (by with_unfolding_all rfl)) rfl rfl rfl ?_
          refine V_buildSlice (Dw := Dw) (cells := #[.int .i64 x45.id_, .string x148.title, .string x148.body]) (l := ([(⟨x45.id_, x148.title, x148.body⟩ : know_Entry)] : List know_Entry)) (len := 1) Tryz.underlying31 Tryz.sizeOf38 Tryz.zeroValue38 rfl (by kernel_rfl) (show (1 * 3 : Nat) ≠ 0 by decide) (show (1 * 3 : Nat) ≤ 2 ^ 24 by decide) hA ⟨[.int .i64 x45.id_, .string x148.title, .string x148.body], _, rfl, ⟨[.int .i64 x45.id_], _, rfl, rfl, ⟨[.string x148.title], _, rfl, rfl, rfl⟩⟩, rfl⟩ rfl rfl ?_
          intro v164 w165 hk167 h166
          have ht168 := Kp.tr (Dw := Dw) hk167 hA hB
          replace hH := Hp.kp (Dw := Dw) hH hk167
          replace h_l := Sl.tr (Dw := Dw) h_l ht168
          replace h60 := El.tr (Dw := Dw) h60 ht168
          replace h158 := El.tr (Dw := Dw) h158 ht168
          replace h161 := El.tr (Dw := Dw) h161 ht168
          replace h162 := El.tr (Dw := Dw) h162 ht168
          replace h163 := El.tr (Dw := Dw) h163 ht168
          replace hK := Tr.trans (Dw := Dw) hK ht168
          replace hr5 := Tr.trans (Dw := Dw) hr5 ht168
          replace hr35 := Tr.trans (Dw := Dw) hr35 ht168
          replace hB := Nat.le_trans hB ht168.ex.size
          replace hA := ht168.new
          obtain ⟨x169, hx169, ho33⟩ := Option.bind_eq_some_iff.1 ho33
          refine V_appendH (Dw := Dw) (e := 38) (v := v18) (l := s16.1) (ti := Tryz.t38) (bytes := 40) (lim := 3518437208883) hH (i := 1) rfl h166 hx169 Tryz.underlying31 Tryz_info38 rfl rfl rfl rfl (by decide) (by decide) (by decide) hB hA rfl rfl rfl ?_
          intro v170 w171 A172 hH173 ht174
          replace h_l := Sl.tr (Dw := Dw) h_l ht174
          replace h60 := El.tr (Dw := Dw) h60 ht174
          replace h158 := El.tr (Dw := Dw) h158 ht174
          replace h161 := El.tr (Dw := Dw) h161 ht174
          replace h162 := El.tr (Dw := Dw) h162 ht174
          replace h163 := El.tr (Dw := Dw) h163 ht174
          replace h166 := Sl.tr (Dw := Dw) h166 ht174
          replace hK := Tr.trans (Dw := Dw) hK ht174
          replace hr5 := Tr.trans (Dw := Dw) hr5 ht174
          replace hr35 := Tr.trans (Dw := Dw) hr35 ht174
          replace hB := Nat.le_trans hB ht174.ex.size
          replace hA := ht174.new
          replace hH : Hp B A172 w171 (obS (α := know_Version) 40 v20 s16.2 :: obS (α := know_Entry) 38 v170 x169 :: L) := hH173
          refine V_y (Y_assign rfl) rfl rfl rfl ?_
          refine V_to (fun _ _ => rfl) ?_
          refine C_region ?_
          refine V_y (Y_move rfl) rfl rfl rfl ?_
          obtain ⟨h175, _⟩ := El_know_Version h158
          refine V_y (Y_loadA h175 Tryz.isAgg40 Tryz.sizeOf40 rfl) rfl rfl rfl ?_
          refine V_buildSlice (Dw := Dw) (cells := #[.int .i64 x148.at_, .string x148.title, .string x148.body]) (l := ([x148] : List know_Version)) (len := 1) Tryz.underlying32 Tryz.sizeOf40 Tryz.zeroValue40 rfl (by kernel_rfl) (show (1 * 3 : Nat) ≠ 0 by decide) (show (1 * 3 : Nat) ≤ 2 ^ 24 by decide) hA ⟨[.int .i64 x148.at_, .string x148.title, .string x148.body], _, rfl, ⟨[.int .i64 x148.at_], _, rfl, rfl, ⟨[.string x148.title], _, rfl, rfl, rfl⟩⟩, rfl⟩ rfl rfl ?_
          intro v176 w177 hk179 h178
          have ht180 := Kp.tr (Dw := Dw) hk179 hA hB
          replace hH := Hp.kp (Dw := Dw) hH hk179
          replace h_l := Sl.tr (Dw := Dw) h_l ht180
          replace h158 := El.tr (Dw := Dw) h158 ht180
          replace hK := Tr.trans (Dw := Dw) hK ht180
          replace hr5 := Tr.trans (Dw := Dw) hr5 ht180
          replace hr35 := Tr.trans (Dw := Dw) hr35 ht180
          replace hB := Nat.le_trans hB ht180.ex.size
          replace hA := ht180.new
          obtain ⟨x181, hx181, ho33⟩ := Option.bind_eq_some_iff.1 ho33
          refine V_appendH (Dw := Dw) (e := 40) (v := v20) (l := s16.2) (ti := Tryz.t40) (bytes := 40) (lim := 3518437208883) hH (i := 0) rfl h178 hx181 Tryz.underlying32 Tryz_info40 rfl rfl rfl rfl (by decide) (by decide) (by decide) hB hA rfl rfl rfl ?_
          intro v182 w183 A184 hH185 ht186
          replace h_l := Sl.tr (Dw := Dw) h_l ht186
          replace h158 := El.tr (Dw := Dw) h158 ht186
          replace h178 := Sl.tr (Dw := Dw) h178 ht186
          replace hK := Tr.trans (Dw := Dw) hK ht186
          replace hr5 := Tr.trans (Dw := Dw) hr5 ht186
          replace hr35 := Tr.trans (Dw := Dw) hr35 ht186
          replace hB := Nat.le_trans hB ht186.ex.size
          replace hA := ht186.new
          replace hH : Hp B A184 w183 (obS (α := know_Version) 40 v182 x181 :: obS (α := know_Entry) 38 v170 x169 :: L) := hH185
          refine V_y (Y_assign rfl) rfl rfl rfl ?_
          obtain rfl := Option.some.inj ho33
          refine V_end (fun a ha187 => ?_)
          exact ⟨(v170, v182, A184), ha187.sub ⟨rfl, rfl, rfl, rfl, rfl, rfl, rfl, trivial⟩, ⟨hH, hr35⟩⟩
      rintro ⟨v36, v38, A43⟩ w40 ⟨hH44, hk41⟩ a ha42
      replace h_l := Sl.tr (Dw := Dw) h_l hk41
      replace hK := Tr.trans (Dw := Dw) hK hk41
      replace hr5 := Tr.trans (Dw := Dw) hr5 hk41
      replace hB := Nat.le_trans hB hk41.ex.size
      replace hA := hk41.new
      replace hH : Hp B A43 w40 (obS (α := know_Version) 40 v38 s34.2 :: obS (α := know_Entry) 38 v36 s34.1 :: L) := hH44
      refine C_at (n := ⟨76, [], none⟩) (fun _ _ => rfl) ?_ ha42
      refine C_region ?_
      refine V_y (Y_addI rfl rfl) rfl rfl rfl ?_
      refine V_y (Y_move rfl) rfl rfl rfl ?_
      obtain rfl := Option.some.inj h25
      refine V_end (fun a ha188 => ?_)
      exact ⟨(s34.1, s34.2), hlt28, h26, ⟨(v36, v38, A43), ha188.sub ⟨rfl, rfl, rfl, rfl, rfl, rfl, (congrArg (fun z => some (Value.int .i64 z)) (w64_succ hlt28 hn31)), trivial⟩, ⟨hH, hr5⟩⟩⟩
    · refine C_exit (fun a ha189 => ?_)
      exact ⟨((s16.1, s16.2), v18, v20, A22), ha189.sub ⟨rfl, rfl, trivial⟩, ⟨(h29 (eq_of_dec hle27 hc32)).symm, hH, hr5⟩⟩
  rintro ⟨s4, v10, v12, A14⟩ w7 ⟨rfl, hH15, hk8⟩ a ha9
  rw [Lp.andThen_fin] at hm
  replace hK := Tr.trans (Dw := Dw) hK hk8
  replace hB := Nat.le_trans hB hk8.ex.size
  replace hA := hk8.new
  replace hH : Hp B A14 w7 (obS (α := know_Version) 40 v12 s4.2 :: obS (α := know_Entry) 38 v10 s4.1 :: L) := hH15
  refine C_at (n := ⟨76, [], none⟩) (fun _ _ => rfl) ?_ ha9
  refine C_seq ?_
  refine C_region ?_
  refine V_y (Y_move rfl) rfl rfl rfl ?_
  refine V_y (Y_move rfl) rfl rfl rfl ?_
  refine V_y (Y_assign rfl) rfl rfl rfl ?_
  refine V_y (Y_assign rfl) rfl rfl rfl ?_
  refine V_to (fun _ _ => rfl) ?_
  obtain rfl := Option.some.inj hm
  replace hH : Hp B A14 w7 (obS (α := know_Entry) 38 v10 s4.1 :: obS (α := know_Version) 40 v12 s4.2 :: L) := Hp.front hH (i := 1) rfl
  refine C_ret ?_
  try simp only [↓inBlock_ret, ↓then_ret]
  exact retQ rfl (Res.two Tryz.results9 rfl rfl) ⟨v10, v12, A14, rfl, hH, hK⟩

set_option maxRecDepth 4000 in
set_option maxHeartbeats 4000000 in
theorem know_Stale_1_c (w : World) (p0 : Int) : Ret Tryz.prog 10 #[.int .i64 p0] w fun v w' => v = .bool (know_Stale_1 p0) ∧ w = w' := by
  generalize hm : know_Stale_1 p0 = r
  unfold know_Stale_1 at hm
  refine enter Tryz.func10 rfl Tryz.ntmps10 rfl ?_
  refine C_seq ?_
  refine C_region ?_
  refine V_y (Y_assign rfl) rfl rfl rfl ?_
  refine V_to (fun _ _ => rfl) ?_
  refine C_seq ?_
  refine C_region ?_
  refine V_y (Y_assign rfl) rfl rfl rfl ?_
  refine V_to (fun _ _ => rfl) ?_
  obtain rfl := hm
  refine C_ret ?_
  try simp only [↓inBlock_ret, ↓then_ret]
  exact retQ rfl (Res.one Tryz.results10 rfl) ⟨rfl, rfl⟩

set_option maxRecDepth 4000 in
set_option maxHeartbeats 4000000 in
theorem know_letter_c (w : World) (c : Int) : Ret Tryz.prog 21 #[.int .u8 c] w fun v w' => v = .bool (know_letter c) ∧ w = w' := by
  generalize hm : know_letter c = r
  unfold know_letter at hm
  refine enter Tryz.func21 rfl Tryz.ntmps21 rfl ?_
  refine C_seq ?_
  refine C_region ?_
  refine V_y (Y_assign rfl) rfl rfl rfl ?_
  refine V_to (fun _ _ => rfl) ?_
  refine C_seq ?_
  refine C_region ?_
  refine V_y (Y_move rfl) rfl rfl rfl ?_
  refine V_y (Y_geq rfl rfl) rfl rfl rfl ?_
  refine V_y (Y_move rfl) rfl rfl rfl ?_
  refine V_cut 3 (fun _ : Unit => [(0, .int .u8 c), (8, .bool ((decide ((97 : Int) ≤ c)) && (decide (c ≤ 122))))]) (fun _ w' => w = w') ?_ ?_
  · simp only [List.take, List.drop]
    rcases Bool.eq_false_or_eq_true (decide ((97 : Int) ≤ c)) with hc1 | hc1
    · refine V_ge rfl rfl rfl hc1 ?_
      refine V_y (Y_move rfl) rfl rfl rfl ?_
      refine V_ge rfl rfl rfl hc1 ?_
      refine V_y (Y_leq rfl rfl) rfl rfl rfl ?_
      refine V_y (Y_pick_te rfl hc1 rfl) rfl rfl rfl ?_
      exact V_end fun a ha => ⟨(), ha.sub ⟨rfl, (by rw [hc1]; rfl), trivial⟩, rfl⟩
    · refine V_gn rfl rfl rfl hc1 rfl rfl rfl ?_
      refine V_gn rfl rfl rfl hc1 rfl rfl rfl ?_
      refine V_y (Y_pick_fe rfl hc1 rfl) rfl rfl rfl ?_
      exact V_end fun a ha => ⟨(), ha.sub ⟨rfl, (by rw [hc1]; rfl), trivial⟩, rfl⟩
  simp only [List.take, List.drop]
  rintro _ _ rfl
  refine V_y (Y_move rfl) rfl rfl rfl ?_
  refine V_cut 7 (fun _ : Unit => [(16, .bool (((decide ((97 : Int) ≤ c)) && (decide (c ≤ 122))) || ((decide ((65 : Int) ≤ c)) && (decide (c ≤ 90)))))]) (fun _ w' => w = w') ?_ ?_
  · simp only [List.take, List.drop]
    rcases Bool.eq_false_or_eq_true (((decide ((97 : Int) ≤ c)) && (decide (c ≤ 122)))) with hc3 | hc3
    · refine V_gn rfl rfl rfl hc3 rfl rfl rfl ?_
      refine V_gn rfl rfl rfl hc3 rfl rfl rfl ?_
      refine V_gn rfl rfl rfl hc3 rfl rfl rfl ?_
      refine V_gu rfl rfl rfl rfl rfl ?_
      refine V_gu rfl rfl rfl rfl rfl ?_
      refine V_gn rfl rfl rfl hc3 rfl rfl rfl ?_
      refine V_y (Y_pick_te rfl hc3 rfl) rfl rfl rfl ?_
      exact V_end fun a ha => ⟨(), ha.sub ⟨(by rw [hc3]; rfl), trivial⟩, rfl⟩
    · refine V_ge rfl rfl rfl hc3 ?_
      refine V_y (Y_move rfl) rfl rfl rfl ?_
      refine V_ge rfl rfl rfl hc3 ?_
      refine V_y (Y_geq rfl rfl) rfl rfl rfl ?_
      refine V_ge rfl rfl rfl hc3 ?_
      refine V_y (Y_move rfl) rfl rfl rfl ?_
      refine V_cut 3 (fun _ : Unit => [(9, .bool ((decide ((97 : Int) ≤ c)) && (decide (c ≤ 122)))), (15, .bool ((decide ((65 : Int) ≤ c)) && (decide (c ≤ 90))))]) (fun _ w' => w = w') ?_ ?_
      · simp only [List.take, List.drop]
        rcases Bool.eq_false_or_eq_true (decide ((65 : Int) ≤ c)) with hc5 | hc5
        · refine V_ge rfl rfl rfl hc5 ?_
          refine V_y (Y_move rfl) rfl rfl rfl ?_
          refine V_ge rfl rfl rfl hc5 ?_
          refine V_y (Y_leq rfl rfl) rfl rfl rfl ?_
          refine V_ge rfl rfl rfl hc3 ?_
          refine V_y (Y_pick_te rfl hc5 rfl) rfl rfl rfl ?_
          exact V_end fun a ha => ⟨(), ha.sub ⟨rfl, (by rw [hc5]; rfl), trivial⟩, rfl⟩
        · refine V_gn rfl rfl rfl hc5 rfl rfl rfl ?_
          refine V_gn rfl rfl rfl hc5 rfl rfl rfl ?_
          refine V_ge rfl rfl rfl hc3 ?_
          refine V_y (Y_pick_fe rfl hc5 rfl) rfl rfl rfl ?_
          exact V_end fun a ha => ⟨(), ha.sub ⟨rfl, (by rw [hc5]; rfl), trivial⟩, rfl⟩
      simp only [List.take, List.drop]
      rintro _ _ rfl
      refine V_y (Y_pick_fe rfl hc3 rfl) rfl rfl rfl ?_
      exact V_end fun a ha => ⟨(), ha.sub ⟨(by rw [hc3]; rfl), trivial⟩, rfl⟩
  simp only [List.take, List.drop]
  rintro _ _ rfl
  refine V_y (Y_assign rfl) rfl rfl rfl ?_
  refine V_to (fun _ _ => rfl) ?_
  obtain rfl := hm
  refine C_ret ?_
  try simp only [↓inBlock_ret, ↓then_ret]
  exact retQ rfl (Res.one Tryz.results21 rfl) ⟨rfl, rfl⟩

set_option maxRecDepth 4000 in
set_option maxHeartbeats 4000000 in
theorem know_digit_c (w : World) (c : Int) : Ret Tryz.prog 22 #[.int .u8 c] w fun v w' => v = .bool (know_digit c) ∧ w = w' := by
  generalize hm : know_digit c = r
  unfold know_digit at hm
  refine enter Tryz.func22 rfl Tryz.ntmps22 rfl ?_
  refine C_seq ?_
  refine C_region ?_
  refine V_y (Y_assign rfl) rfl rfl rfl ?_
  refine V_to (fun _ _ => rfl) ?_
  refine C_seq ?_
  refine C_region ?_
  refine V_y (Y_move rfl) rfl rfl rfl ?_
  refine V_y (Y_geq rfl rfl) rfl rfl rfl ?_
  refine V_y (Y_move rfl) rfl rfl rfl ?_
  refine V_cut 3 (fun _ : Unit => [(8, .bool ((decide ((48 : Int) ≤ c)) && (decide (c ≤ 57))))]) (fun _ w' => w = w') ?_ ?_
  · simp only [List.take, List.drop]
    rcases Bool.eq_false_or_eq_true (decide ((48 : Int) ≤ c)) with hc1 | hc1
    · refine V_ge rfl rfl rfl hc1 ?_
      refine V_y (Y_move rfl) rfl rfl rfl ?_
      refine V_ge rfl rfl rfl hc1 ?_
      refine V_y (Y_leq rfl rfl) rfl rfl rfl ?_
      refine V_y (Y_pick_te rfl hc1 rfl) rfl rfl rfl ?_
      exact V_end fun a ha => ⟨(), ha.sub ⟨(by rw [hc1]; rfl), trivial⟩, rfl⟩
    · refine V_gn rfl rfl rfl hc1 rfl rfl rfl ?_
      refine V_gn rfl rfl rfl hc1 rfl rfl rfl ?_
      refine V_y (Y_pick_fe rfl hc1 rfl) rfl rfl rfl ?_
      exact V_end fun a ha => ⟨(), ha.sub ⟨(by rw [hc1]; rfl), trivial⟩, rfl⟩
  simp only [List.take, List.drop]
  rintro _ _ rfl
  refine V_y (Y_assign rfl) rfl rfl rfl ?_
  refine V_to (fun _ _ => rfl) ?_
  obtain rfl := hm
  refine C_ret ?_
  try simp only [↓inBlock_ret, ↓then_ret]
  exact retQ rfl (Res.one Tryz.results22 rfl) ⟨rfl, rfl⟩

def Tryz_cp24_ren : Go.Shelf.Ren := ⟨fun | 20 => 24 | n => n, fun | 0 => 0 | 1 => 1 | 2 => 2 | 3 => 3 | 4 => 4 | 5 => 5 | 6 => 6 | 7 => 7 | 8 => 8 | 9 => 9 | 10 => 10 | 11 => 11 | 12 => 12 | 13 => 13 | 14 => 14 | 15 => 15 | 16 => 16 | 17 => 17 | 18 => 18 | 19 => 19 | 20 => 20 | 21 => 21 | 22 => 23 | 23 => 51 | 24 => 57 | 33 => 75 | 36 => 27 | 40 => 62 | 41 => 73 | 42 => 35 | 44 => 63 | 45 => 50 | 46 => 106 | 47 => 146 | 48 => 147 | 49 => 148 | 50 => 149 | 51 => 150 | 52 => 151 | 53 => 78 | 54 => 152 | 55 => 153 | 56 => 154 | 57 => 121 | 58 => 155 | 59 => 156 | 60 => 157 | 61 => 158 | 62 => 126 | n => n, fun n => n⟩
theorem Tryz_cp24_lay : Go.Proofs.Lays2.n20 Tryz.prog Tryz_cp24_ren := {
  mixed := by kernel_rfl,
  f20 := Tryz.func24.trans (congrArg some (by kernel_rfl)),
  t0 := Tryz.underlying0,
  a0 := Tryz.isAgg0,
  z0 := Tryz.sizeOf0,
  v0 := Tryz.zeroValue0,
  t3 := Tryz.underlying3,
  a3 := Tryz.isAgg3,
  z3 := Tryz.sizeOf3,
  v3 := Tryz.zeroValue3,
  t4 := Tryz.underlying4,
  a4 := Tryz.isAgg4,
  z4 := Tryz.sizeOf4,
  v4 := Tryz.zeroValue4,
  t22 := Tryz.underlying23,
  a22 := Tryz.isAgg23,
  z22 := Tryz.sizeOf23,
  v22 := Tryz.zeroValue23,
  i3 := by kernel_rfl }
theorem Tryz_cp24 {l r : List Int} {B : Nat} {A : Nat → Prop} {w : World} {L : List Ob} {i : Nat} {v : Value} (hH : Hp B A w L) (hi : L[i]? = some (obS (α := Int) 3 v l)) (hB : B ≤ w.heap.size) (hA : ∀ b, w.heap.size ≤ b → A b) (hr : compactIntsL l = some r) : Ret Tryz.prog 24 #[v] w fun u w' => ∃ v', u = v' ∧ Hp B A w' (L.set i (obS (α := Int) 3 v' r)) ∧ Tr Dw B A w A w' :=
  Hp.compactInts (Dw := Dw) (fun a c w => Go.Proofs.Any.slices_Compact_int_empty Tryz_cp24_lay a c w) (fun blk off cap zs w h1 h2 h3 => Go.Proofs.Any.slices_Compact_int Tryz_cp24_lay blk off cap zs w h1 h2 h3) hH hi hB hA hr

set_option maxRecDepth 4000 in
set_option maxHeartbeats 4000000 in
theorem know_Links_c (w : World) {A : Nat → Prop} (hA : ∀ b, w.heap.size ≤ b → A b) (body : ByteArray) {r : (List Int)} (hm : know_Links body = some r) : Ret Tryz.prog 12 #[.string body] w fun v w' => ∃ s0, v = s0 ∧ Ownd 3 w w' s0 r ∧ Kp Dw w w' := by
  unfold know_Links at hm
  refine enter Tryz.func12 rfl Tryz.ntmps12 rfl ?_
  have hA0 := hA
  have hB := Nat.le_refl w.heap.size
  have hK : Tr Dw w.heap.size A w A w := Tr.refl (Dw := Dw) hA
  have hH : Hp w.heap.size A w [] := Hp.nil
  refine C_seq ?_
  refine C_region ?_
  refine V_y (Y_assign rfl) rfl rfl rfl ?_
  refine V_to (fun _ _ => rfl) ?_
  refine C_seq ?_
  refine C_region ?_
  refine V_y (Y_assign rfl) rfl rfl rfl ?_
  refine V_to (fun _ _ => rfl) ?_
  refine C_seq ?_
  refine C_seq ?_
  refine C_region ?_
  refine V_y (Y_move rfl) rfl rfl rfl ?_
  refine V_y (Y_lenStr rfl Tryz.underlying9 rfl) rfl rfl rfl ?_
  refine V_y (Y_move rfl) rfl rfl rfl ?_
  refine V_to (fun _ _ => rfl) ?_
  replace hH : Hp w.heap.size A w (obS (α := Int) 3 (.slice none 0 0) ([] : (List Int)) :: []) := Hp.addNil (α := Int) (e := 3) hH
  obtain ⟨o1, ho1, hm⟩ := Option.bind_eq_some_iff.1 hm
  refine C_cutG (ι := (((List Int) × Int) × Value × (Nat → Prop))) (fun ⟨s2, v8, A10⟩ => [(3, v8)]) (fun ⟨s2, v8, A10⟩ => fun w' => o1 = .fin s2 ∧ Hp w.heap.size A10 w' (obS (α := Int) 3 v8 s2.1 :: []) ∧ Tr Dw w.heap.size A w A10 w') ?_ ?_
  · refine C_block ?_
    refine C_while ho1 (fun s12 a w' => ∃ i : (Value × (Nat → Prop)), Has ⟨107, [], none⟩ a ([(0, .string body), (3, i.1), (8, .int .i64 (body.size : Int)), (9, .int .i64 s12.2)]) ∧ Hp w.heap.size i.2 w' (obS (α := Int) 3 i.1 s12.1 :: []) ∧ Tr Dw w.heap.size A w i.2 w') (fun a ha => ⟨(.slice none 0 0, A), ha.sub ⟨rfl, rfl, rfl, rfl, trivial⟩, ⟨hH, Tr.refl (Dw := Dw) hA⟩⟩) ?_
    rintro K s12 a w13 ⟨⟨v14, A16⟩, ha100, hH17, hr3⟩ K24
    refine C_of ?_ ha100
    replace hK := Tr.trans (Dw := Dw) hK hr3
    replace hB := Nat.le_trans hB hr3.ex.size
    replace hA := hr3.new
    replace hH : Hp w.heap.size A16 w13 (obS (α := Int) 3 v14 s12.1 :: []) := hH17
    obtain ⟨x18, h19, h20⟩ := K24
    refine C_seq ?_
    refine C_region ?_
    refine V_y (Y_lss rfl rfl) rfl rfl rfl ?_
    refine V_to (fun _ _ => rfl) ?_
    refine C_seq ?_
    refine C_cond rfl (fun hc25 => ?_) (fun hc25 => ?_)
    · rw [if_pos hc25] at h19
      refine C_skip_to (fun _ _ => rfl) ?_
      refine C_seq ?_
      obtain ⟨s27, ho26, h19⟩ := Option.bind_eq_some_iff.1 h19
      refine C_cutG (ι := (Value × (Nat → Prop))) (fun ⟨v29, A34⟩ => [(0, .string body), (3, v29), (8, .int .i64 (body.size : Int)), (9, .int .i64 s12.2)]) (fun ⟨v29, A34⟩ => fun w' => Hp w.heap.size A34 w' (obS (α := Int) 3 v29 s27 :: []) ∧ Tr Dw w.heap.size A16 w13 A34 w') ?_ ?_
      · have hr28 : Tr Dw w.heap.size A16 w13 A16 w13 := Tr.refl (Dw := Dw) hA
        refine C_block ?_
        refine C_seq ?_
        refine C_region ?_
        refine V_y (Y_move rfl) rfl rfl rfl ?_
        refine V_y (Y_assign rfl) rfl rfl rfl ?_
        refine V_to (fun _ _ => rfl) ?_
        refine C_seq ?_
        refine C_seq ?_
        refine C_region ?_
        refine V_y (Y_move rfl) rfl rfl rfl ?_
        refine V_y (Y_move rfl) rfl rfl rfl ?_
        obtain ⟨x36, hx36, ho26⟩ := Option.bind_eq_some_iff.1 ho26
        refine V_y (Y_indexS hx36 Tryz.underlying9 rfl rfl) rfl rfl rfl ?_
        refine V_y (Y_neq rfl rfl) rfl rfl rfl ?_
        refine V_y (Y_move rfl) rfl rfl rfl ?_
        obtain ⟨s38, hs38, ho26⟩ := Option.bind_eq_some_iff.1 ho26
        refine V_cut 24 (fun _ : Unit => [(0, .string body), (3, v14), (4, .int .i64 s12.2), (8, .int .i64 (body.size : Int)), (9, .int .i64 s12.2), (40, .bool s38)]) (fun _ w' => w13 = w') ?_ ?_
        · simp only [List.take, List.drop]
          rcases Bool.eq_false_or_eq_true ((x36.toNat : Int) != 35) with hc37 | hc37
          · rw [if_pos hc37] at hs38
            refine V_gn rfl rfl rfl hc37 rfl rfl rfl ?_
            refine V_gn rfl rfl rfl hc37 rfl rfl rfl ?_
            refine V_gn rfl rfl rfl hc37 rfl rfl rfl ?_
            refine V_gu rfl rfl rfl rfl rfl ?_
            refine V_gu rfl rfl rfl rfl rfl ?_
            refine V_gu rfl rfl rfl rfl rfl ?_
            refine V_gu rfl rfl rfl rfl rfl ?_
            refine V_gu rfl rfl rfl rfl rfl ?_
            refine V_gu rfl rfl rfl rfl rfl ?_
            refine V_gu rfl rfl rfl rfl rfl ?_
            refine V_gu rfl rfl rfl rfl rfl ?_
            refine V_gu rfl rfl rfl rfl rfl ?_
            refine V_gu rfl rfl rfl rfl rfl ?_
            refine V_gu rfl rfl rfl rfl rfl ?_
            refine V_gu rfl rfl rfl rfl rfl ?_
            refine V_gu rfl rfl rfl rfl rfl ?_
            refine V_gu rfl rfl rfl rfl rfl ?_
            refine V_gu rfl rfl rfl rfl rfl ?_
            refine V_gu rfl rfl rfl rfl rfl ?_
            refine V_gu rfl rfl rfl rfl rfl ?_
            refine V_gu rfl rfl rfl rfl rfl ?_
            refine V_gu rfl rfl rfl rfl rfl ?_
            refine V_gn rfl rfl rfl hc37 rfl rfl rfl ?_
            refine V_y (Y_pick_te rfl hc37 rfl) rfl rfl rfl ?_
            obtain rfl := Option.some.inj hs38
            exact V_end fun a ha => ⟨(), ha.sub ⟨rfl, rfl, rfl, rfl, rfl, rfl, trivial⟩, rfl⟩
          · rw [if_neg (nt hc37)] at hs38
            refine V_ge rfl rfl rfl hc37 ?_
            refine V_y (Y_move rfl) rfl rfl rfl ?_
            refine V_ge rfl rfl rfl hc37 ?_
            refine V_y (Y_gtr rfl rfl) rfl rfl rfl ?_
            refine V_ge rfl rfl rfl hc37 ?_
            refine V_y (Y_move rfl) rfl rfl rfl ?_
            obtain ⟨s40, hs40, hs38⟩ := Option.bind_eq_some_iff.1 hs38
            refine V_cut 20 (fun _ : Unit => [(0, .string body), (3, v14), (4, .int .i64 s12.2), (8, .int .i64 (body.size : Int)), (9, .int .i64 s12.2), (16, .bool ((x36.toNat : Int) != 35)), (39, .bool s40)]) (fun _ w' => w13 = w') ?_ ?_
            · simp only [List.take, List.drop]
              rcases Bool.eq_false_or_eq_true (decide ((0 : Int) < s12.2)) with hc39 | hc39
              · rw [if_pos hc39] at hs40
                refine V_ge rfl rfl rfl hc39 ?_
                refine V_y (Y_move rfl) rfl rfl rfl ?_
                refine V_ge rfl rfl rfl hc39 ?_
                refine V_y (Y_move rfl) rfl rfl rfl ?_
                refine V_ge rfl rfl rfl hc39 ?_
                refine V_y (Y_subI rfl rfl) rfl rfl rfl ?_
                refine V_ge rfl rfl rfl hc39 ?_
                obtain ⟨x41, hx41, hs40⟩ := Option.bind_eq_some_iff.1 hs40
                refine V_y (Y_indexS hx41 Tryz.underlying9 rfl rfl) rfl rfl rfl ?_
                refine V_ge rfl rfl rfl hc39 ?_
                refine V_call Tryz.call21 rfl rfl rfl rfl (know_letter_c w13 (x41.toNat : Int)) ?_
                rintro _ _ ⟨rfl, rfl⟩
                refine V_ge rfl rfl rfl hc39 ?_
                refine V_y (Y_move rfl) rfl rfl rfl ?_
                obtain ⟨s43, hs43, hs40⟩ := Option.bind_eq_some_iff.1 hs40
                refine V_cut 6 (fun _ : Unit => [(0, .string body), (3, v14), (4, .int .i64 s12.2), (8, .int .i64 (body.size : Int)), (9, .int .i64 s12.2), (16, .bool ((x36.toNat : Int) != 35)), (19, .bool (decide ((0 : Int) < s12.2))), (31, .bool s43)]) (fun _ w' => w13 = w') ?_ ?_
                · simp only [List.take, List.drop]
                  rcases Bool.eq_false_or_eq_true ((know_letter (x41.toNat : Int))) with hc42 | hc42
                  · rw [if_pos hc42] at hs43
                    refine V_gn rfl rfl rfl hc42 rfl rfl rfl ?_
                    refine V_gn rfl rfl rfl hc42 rfl rfl rfl ?_
                    refine V_gn rfl rfl rfl hc42 rfl rfl rfl ?_
                    refine V_gn rfl rfl rfl hc42 rfl rfl rfl ?_
                    refine V_gn rfl rfl rfl hc42 rfl rfl rfl ?_
                    refine V_ge rfl rfl rfl hc39 ?_
                    refine V_y (Y_pick_te rfl hc42 rfl) rfl rfl rfl ?_
                    obtain rfl := Option.some.inj hs43
                    exact V_end fun a ha => ⟨(), ha.sub ⟨rfl, rfl, rfl, rfl, rfl, rfl, rfl, rfl, trivial⟩, rfl⟩
                  · rw [if_neg (nt hc42)] at hs43
                    refine V_ge rfl rfl rfl hc42 ?_
                    refine V_y (Y_move rfl) rfl rfl rfl ?_
                    refine V_ge rfl rfl rfl hc42 ?_
                    refine V_y (Y_move rfl) rfl rfl rfl ?_
                    refine V_ge rfl rfl rfl hc42 ?_
                    refine V_y (Y_subI rfl rfl) rfl rfl rfl ?_
                    refine V_ge rfl rfl rfl hc42 ?_
                    refine V_y (Y_indexS hx41 Tryz.underlying9 rfl rfl) rfl rfl rfl ?_
                    refine V_ge rfl rfl rfl hc42 ?_
                    refine V_call Tryz.call22 rfl rfl rfl rfl (know_digit_c w13 (x41.toNat : Int)) ?_
                    rintro _ _ ⟨rfl, rfl⟩
                    refine V_ge rfl rfl rfl hc39 ?_
                    refine V_y (Y_pick_fe rfl hc42 rfl) rfl rfl rfl ?_
                    obtain rfl := Option.some.inj hs43
                    exact V_end fun a ha => ⟨(), ha.sub ⟨rfl, rfl, rfl, rfl, rfl, rfl, rfl, rfl, trivial⟩, rfl⟩
                simp only [List.take, List.drop]
                rintro _ _ rfl
                refine V_ge rfl rfl rfl hc39 ?_
                refine V_y (Y_move rfl) rfl rfl rfl ?_
                obtain ⟨s45, hs45, hs40⟩ := Option.bind_eq_some_iff.1 hs40
                refine V_cut 6 (fun _ : Unit => [(0, .string body), (3, v14), (4, .int .i64 s12.2), (8, .int .i64 (body.size : Int)), (9, .int .i64 s12.2), (16, .bool ((x36.toNat : Int) != 35)), (19, .bool (decide ((0 : Int) < s12.2))), (38, .bool s45)]) (fun _ w' => w13 = w') ?_ ?_
                · simp only [List.take, List.drop]
                  rcases Bool.eq_false_or_eq_true (s43) with hc44 | hc44
                  · rw [if_pos hc44] at hs45
                    refine V_gn rfl rfl rfl hc44 rfl rfl rfl ?_
                    refine V_gn rfl rfl rfl hc44 rfl rfl rfl ?_
                    refine V_gn rfl rfl rfl hc44 rfl rfl rfl ?_
                    refine V_gn rfl rfl rfl hc44 rfl rfl rfl ?_
                    refine V_gn rfl rfl rfl hc44 rfl rfl rfl ?_
                    refine V_ge rfl rfl rfl hc39 ?_
                    refine V_y (Y_pick_te rfl hc44 rfl) rfl rfl rfl ?_
                    obtain rfl := Option.some.inj hs45
                    exact V_end fun a ha => ⟨(), ha.sub ⟨rfl, rfl, rfl, rfl, rfl, rfl, rfl, rfl, trivial⟩, rfl⟩
                  · rw [if_neg (nt hc44)] at hs45
                    refine V_ge rfl rfl rfl hc44 ?_
                    refine V_y (Y_move rfl) rfl rfl rfl ?_
                    refine V_ge rfl rfl rfl hc44 ?_
                    refine V_y (Y_move rfl) rfl rfl rfl ?_
                    refine V_ge rfl rfl rfl hc44 ?_
                    refine V_y (Y_subI rfl rfl) rfl rfl rfl ?_
                    refine V_ge rfl rfl rfl hc44 ?_
                    refine V_y (Y_indexS hx41 Tryz.underlying9 rfl rfl) rfl rfl rfl ?_
                    refine V_ge rfl rfl rfl hc44 ?_
                    refine V_y (Y_eql rfl rfl) rfl rfl rfl ?_
                    refine V_ge rfl rfl rfl hc39 ?_
                    refine V_y (Y_pick_fe rfl hc44 rfl) rfl rfl rfl ?_
                    obtain rfl := Option.some.inj hs45
                    exact V_end fun a ha => ⟨(), ha.sub ⟨rfl, rfl, rfl, rfl, rfl, rfl, rfl, rfl, trivial⟩, rfl⟩
                simp only [List.take, List.drop]
                rintro _ _ rfl
                refine V_ge rfl rfl rfl hc37 ?_
                refine V_y (Y_pick_te rfl hc39 rfl) rfl rfl rfl ?_
                obtain rfl := Option.some.inj hs40
                exact V_end fun a ha => ⟨(), ha.sub ⟨rfl, rfl, rfl, rfl, rfl, rfl, rfl, trivial⟩, rfl⟩
              · rw [if_neg (nt hc39)] at hs40
                refine V_gn rfl rfl rfl hc39 rfl rfl rfl ?_
                refine V_gn rfl rfl rfl hc39 rfl rfl rfl ?_
                refine V_gn rfl rfl rfl hc39 rfl rfl rfl ?_
                refine V_gn rfl rfl rfl hc39 rfl rfl rfl ?_
                refine V_gn rfl rfl rfl hc39 rfl rfl rfl ?_
                refine V_gn rfl rfl rfl hc39 rfl rfl rfl ?_
                refine V_gu rfl rfl rfl rfl rfl ?_
                refine V_gu rfl rfl rfl rfl rfl ?_
                refine V_gu rfl rfl rfl rfl rfl ?_
                refine V_gu rfl rfl rfl rfl rfl ?_
                refine V_gu rfl rfl rfl rfl rfl ?_
                refine V_gn rfl rfl rfl hc39 rfl rfl rfl ?_
                refine V_gn rfl rfl rfl hc39 rfl rfl rfl ?_
                refine V_gu rfl rfl rfl rfl rfl ?_
                refine V_gu rfl rfl rfl rfl rfl ?_
                refine V_gu rfl rfl rfl rfl rfl ?_
                refine V_gu rfl rfl rfl rfl rfl ?_
                refine V_gu rfl rfl rfl rfl rfl ?_
                refine V_gn rfl rfl rfl hc39 rfl rfl rfl ?_
                refine V_ge rfl rfl rfl hc37 ?_
                refine V_y (Y_pick_fe rfl hc39 rfl) rfl rfl rfl ?_
                obtain rfl := Option.some.inj hs40
                exact V_end fun a ha => ⟨(), ha.sub ⟨rfl, rfl, rfl, rfl, rfl, rfl, rfl, trivial⟩, rfl⟩
            simp only [List.take, List.drop]
            rintro _ _ rfl
            refine V_y (Y_pick_fe rfl hc37 rfl) rfl rfl rfl ?_
            obtain rfl := Option.some.inj hs38
            exact V_end fun a ha => ⟨(), ha.sub ⟨rfl, rfl, rfl, rfl, rfl, rfl, trivial⟩, rfl⟩
        simp only [List.take, List.drop]
        rintro _ _ rfl
        refine V_to (fun _ _ => rfl) ?_
        refine C_cond rfl (fun hc46 => ?_) (fun hc46 => ?_)
        · rw [if_pos hc46] at ho26
          obtain rfl := Option.some.inj ho26
          refine C_exit (fun a ha47 => ?_)
          exact ⟨(v14, A16), ha47.sub ⟨rfl, rfl, rfl, rfl, trivial⟩, ⟨hH, hr28⟩⟩
        · rw [if_neg (nt hc46)] at ho26
          refine C_skip_to (fun _ _ => rfl) ?_
          refine C_seq ?_
          refine C_region ?_
          refine V_y (Y_move rfl) rfl rfl rfl ?_
          refine V_y (Y_addI rfl rfl) rfl rfl rfl ?_
          refine V_y (Y_assign rfl) rfl rfl rfl ?_
          refine V_y (Y_assign rfl) rfl rfl rfl ?_
          refine V_to (fun _ _ => rfl) ?_
          refine C_seq ?_
          obtain ⟨o48, ho48, ho26⟩ := Option.bind_eq_some_iff.1 ho26
          refine C_cutG (ι := (Int × Int)) (fun (s49 : (Int × Int)) => [(0, .string body), (3, v14), (4, .int .i64 s12.2), (5, .int .i64 s49.1), (6, .int .i64 s49.2), (8, .int .i64 (body.size : Int)), (9, .int .i64 s12.2)]) (fun (s49 : (Int × Int)) => fun w' => o48 = .fin s49 ∧ w13 = w') ?_ ?_
          · refine C_block ?_
            refine C_while ho48 (fun s55 a w' => ∃ i : Unit, Has ⟨107, [], none⟩ a ([(0, .string body), (3, v14), (4, .int .i64 s12.2), (5, .int .i64 s55.1), (6, .int .i64 s55.2), (8, .int .i64 (body.size : Int)), (9, .int .i64 s12.2)]) ∧ w13 = w') (fun a ha => ⟨(), ha.sub ⟨rfl, rfl, rfl, rfl, rfl, rfl, rfl, trivial⟩, rfl⟩) ?_
            rintro K s55 a _ ⟨_, ha73, rfl⟩ K63
            refine C_of ?_ ha73
            obtain ⟨x57, h58, h59⟩ := K63
            refine C_seq ?_
            refine C_seq ?_
            refine C_region ?_
            refine V_y (Y_move rfl) rfl rfl rfl ?_
            refine V_y (Y_move rfl) rfl rfl rfl ?_
            refine V_y (Y_lenStr rfl Tryz.underlying9 rfl) rfl rfl rfl ?_
            refine V_y (Y_lss rfl rfl) rfl rfl rfl ?_
            refine V_y (Y_move rfl) rfl rfl rfl ?_
            obtain ⟨s65, hs65, h58⟩ := Option.bind_eq_some_iff.1 h58
            refine V_cut 5 (fun _ : Unit => [(0, .string body), (3, v14), (4, .int .i64 s12.2), (5, .int .i64 s55.1), (6, .int .i64 s55.2), (8, .int .i64 (body.size : Int)), (9, .int .i64 s12.2), (52, .bool s65)]) (fun _ w' => w13 = w') ?_ ?_
            · simp only [List.take, List.drop]
              rcases Bool.eq_false_or_eq_true (decide (s55.2 < (body.size : Int))) with hc64 | hc64
              · rw [if_pos hc64] at hs65
                refine V_ge rfl rfl rfl hc64 ?_
                refine V_y (Y_move rfl) rfl rfl rfl ?_
                refine V_ge rfl rfl rfl hc64 ?_
                refine V_y (Y_move rfl) rfl rfl rfl ?_
                refine V_ge rfl rfl rfl hc64 ?_
                obtain ⟨x66, hx66, hs65⟩ := Option.bind_eq_some_iff.1 hs65
                refine V_y (Y_indexS hx66 Tryz.underlying9 rfl rfl) rfl rfl rfl ?_
                refine V_ge rfl rfl rfl hc64 ?_
                refine V_call Tryz.call22 rfl rfl rfl rfl (know_digit_c w13 (x66.toNat : Int)) ?_
                rintro _ _ ⟨rfl, rfl⟩
                refine V_y (Y_pick_te rfl hc64 rfl) rfl rfl rfl ?_
                obtain rfl := Option.some.inj hs65
                exact V_end fun a ha => ⟨(), ha.sub ⟨rfl, rfl, rfl, rfl, rfl, rfl, rfl, rfl, trivial⟩, rfl⟩
              · rw [if_neg (nt hc64)] at hs65
                refine V_gn rfl rfl rfl hc64 rfl rfl rfl ?_
                refine V_gn rfl rfl rfl hc64 rfl rfl rfl ?_
                refine V_gn rfl rfl rfl hc64 rfl rfl rfl ?_
                refine V_gn rfl rfl rfl hc64 rfl rfl rfl ?_
                refine V_y (Y_pick_fe rfl hc64 rfl) rfl rfl rfl ?_
                obtain rfl := Option.some.inj hs65
                exact V_end fun a ha => ⟨(), ha.sub ⟨rfl, rfl, rfl, rfl, rfl, rfl, rfl, rfl, trivial⟩, rfl⟩
            simp only [List.take, List.drop]
            rintro _ _ rfl
            refine V_y (Y_move rfl) rfl rfl rfl ?_
            refine V_cut 5 (fun _ : Unit => [(0, .string body), (3, v14), (4, .int .i64 s12.2), (5, .int .i64 s55.1), (6, .int .i64 s55.2), (8, .int .i64 (body.size : Int)), (9, .int .i64 s12.2), (58, .bool (s65 && (decide ((w64 (s55.2 - s12.2)) ≤ 7))))]) (fun _ w' => w13 = w') ?_ ?_
            · simp only [List.take, List.drop]
              rcases Bool.eq_false_or_eq_true (s65) with hc67 | hc67
              · refine V_ge rfl rfl rfl hc67 ?_
                refine V_y (Y_move rfl) rfl rfl rfl ?_
                refine V_ge rfl rfl rfl hc67 ?_
                refine V_y (Y_move rfl) rfl rfl rfl ?_
                refine V_ge rfl rfl rfl hc67 ?_
                refine V_y (Y_subI rfl rfl) rfl rfl rfl ?_
                refine V_ge rfl rfl rfl hc67 ?_
                refine V_y (Y_leq rfl rfl) rfl rfl rfl ?_
                refine V_y (Y_pick_te rfl hc67 rfl) rfl rfl rfl ?_
                exact V_end fun a ha => ⟨(), ha.sub ⟨rfl, rfl, rfl, rfl, rfl, rfl, rfl, (by rw [hc67]; rfl), trivial⟩, rfl⟩
              · refine V_gn rfl rfl rfl hc67 rfl rfl rfl ?_
                refine V_gn rfl rfl rfl hc67 rfl rfl rfl ?_
                refine V_gn rfl rfl rfl hc67 rfl rfl rfl ?_
                refine V_gn rfl rfl rfl hc67 rfl rfl rfl ?_
                refine V_y (Y_pick_fe rfl hc67 rfl) rfl rfl rfl ?_
                exact V_end fun a ha => ⟨(), ha.sub ⟨rfl, rfl, rfl, rfl, rfl, rfl, rfl, (by rw [hc67]; rfl), trivial⟩, rfl⟩
            simp only [List.take, List.drop]
            rintro _ _ rfl
            refine V_to (fun _ _ => rfl) ?_
            refine C_cond rfl (fun hc69 => ?_) (fun hc69 => ?_)
            · rw [if_pos hc69] at h58
              refine C_skip_to (fun _ _ => rfl) ?_
              refine C_block ?_
              refine C_seq ?_
              refine C_region ?_
              refine V_y (Y_move rfl) rfl rfl rfl ?_
              refine V_y (Y_mulI rfl rfl) rfl rfl rfl ?_
              refine V_y (Y_move rfl) rfl rfl rfl ?_
              refine V_y (Y_move rfl) rfl rfl rfl ?_
              obtain ⟨x70, hx70, h58⟩ := Option.bind_eq_some_iff.1 h58
              refine V_y (Y_indexS hx70 Tryz.underlying9 rfl rfl) rfl rfl rfl ?_
              refine V_y (Y_subB rfl rfl) rfl rfl rfl ?_
              refine V_y (Y_convI Tryz.underlying5 Tryz.underlying3 rfl) rfl rfl rfl ?_
              refine V_y (Y_addI rfl rfl) rfl rfl rfl ?_
              refine V_y (Y_assign rfl) rfl rfl rfl ?_
              refine V_to (fun _ _ => rfl) ?_
              refine C_region ?_
              refine V_y (Y_move rfl) rfl rfl rfl ?_
              refine V_y (Y_addI rfl rfl) rfl rfl rfl ?_
              refine V_y (Y_assign rfl) rfl rfl rfl ?_
              obtain rfl := Option.some.inj h58
              refine V_end (fun a ha71 => ?_)
              exact ⟨(w64 ((w64 (10 * s55.1)) + (IntKind.wrap .i64 ((toU8 ((x70.toNat : Int) - 48)).toNat : Int))), w64 (s55.2 + 1)), h59, ⟨(), ha71.sub ⟨rfl, rfl, rfl, rfl, rfl, rfl, rfl, trivial⟩, rfl⟩⟩
            · rw [if_neg (nt hc69)] at h58
              obtain rfl := Option.some.inj h58
              refine C_exit (fun a ha72 => ?_)
              exact ⟨(s55.1, s55.2), ha72.sub ⟨rfl, rfl, rfl, rfl, rfl, rfl, rfl, trivial⟩, ⟨h59.symm, rfl⟩⟩
          rintro s49 _ ⟨rfl, rfl⟩ a ha54
          rw [Lp.andThen_fin] at ho26
          refine C_at (n := ⟨107, [], none⟩) (fun _ _ => rfl) ?_ ha54
          refine C_seq ?_
          refine C_seq ?_
          refine C_region ?_
          refine V_y (Y_move rfl) rfl rfl rfl ?_
          refine V_y (Y_move rfl) rfl rfl rfl ?_
          refine V_y (Y_addI rfl rfl) rfl rfl rfl ?_
          refine V_y (Y_eql rfl rfl) rfl rfl rfl ?_
          refine V_y (Y_move rfl) rfl rfl rfl ?_
          obtain ⟨s75, hs75, ho26⟩ := Option.bind_eq_some_iff.1 ho26
          refine V_cut 6 (fun _ : Unit => [(0, .string body), (3, v14), (5, .int .i64 s49.1), (6, .int .i64 s49.2), (8, .int .i64 (body.size : Int)), (9, .int .i64 s12.2), (79, .bool s75)]) (fun _ w' => w13 = w') ?_ ?_
          · simp only [List.take, List.drop]
            rcases Bool.eq_false_or_eq_true (s49.2 == (w64 (s12.2 + 1))) with hc74 | hc74
            · rw [if_pos hc74] at hs75
              refine V_gn rfl rfl rfl hc74 rfl rfl rfl ?_
              refine V_gn rfl rfl rfl hc74 rfl rfl rfl ?_
              refine V_gn rfl rfl rfl hc74 rfl rfl rfl ?_
              refine V_gn rfl rfl rfl hc74 rfl rfl rfl ?_
              refine V_gn rfl rfl rfl hc74 rfl rfl rfl ?_
              refine V_y (Y_pick_te rfl hc74 rfl) rfl rfl rfl ?_
              obtain rfl := Option.some.inj hs75
              exact V_end fun a ha => ⟨(), ha.sub ⟨rfl, rfl, rfl, rfl, rfl, rfl, rfl, trivial⟩, rfl⟩
            · rw [if_neg (nt hc74)] at hs75
              refine V_ge rfl rfl rfl hc74 ?_
              refine V_y (Y_move rfl) rfl rfl rfl ?_
              refine V_ge rfl rfl rfl hc74 ?_
              refine V_y (Y_move rfl) rfl rfl rfl ?_
              refine V_ge rfl rfl rfl hc74 ?_
              refine V_y (Y_addI rfl rfl) rfl rfl rfl ?_
              refine V_ge rfl rfl rfl hc74 ?_
              obtain ⟨x76, hx76, hs75⟩ := Option.bind_eq_some_iff.1 hs75
              refine V_y (Y_indexS hx76 Tryz.underlying9 rfl rfl) rfl rfl rfl ?_
              refine V_ge rfl rfl rfl hc74 ?_
              refine V_y (Y_eql rfl rfl) rfl rfl rfl ?_
              refine V_y (Y_pick_fe rfl hc74 rfl) rfl rfl rfl ?_
              obtain rfl := Option.some.inj hs75
              exact V_end fun a ha => ⟨(), ha.sub ⟨rfl, rfl, rfl, rfl, rfl, rfl, rfl, trivial⟩, rfl⟩
          simp only [List.take, List.drop]
          rintro _ _ rfl
          refine V_y (Y_move rfl) rfl rfl rfl ?_
          obtain ⟨s78, hs78, ho26⟩ := Option.bind_eq_some_iff.1 ho26
          refine V_cut 17 (fun _ : Unit => [(0, .string body), (3, v14), (5, .int .i64 s49.1), (8, .int .i64 (body.size : Int)), (9, .int .i64 s12.2), (97, .bool s78)]) (fun _ w' => w13 = w') ?_ ?_
          · simp only [List.take, List.drop]
            rcases Bool.eq_false_or_eq_true (s75) with hc77 | hc77
            · rw [if_pos hc77] at hs78
              refine V_gn rfl rfl rfl hc77 rfl rfl rfl ?_
              refine V_gn rfl rfl rfl hc77 rfl rfl rfl ?_
              refine V_gn rfl rfl rfl hc77 rfl rfl rfl ?_
              refine V_gn rfl rfl rfl hc77 rfl rfl rfl ?_
              refine V_gn rfl rfl rfl hc77 rfl rfl rfl ?_
              refine V_gu rfl rfl rfl rfl rfl ?_
              refine V_gu rfl rfl rfl rfl rfl ?_
              refine V_gu rfl rfl rfl rfl rfl ?_
              refine V_gu rfl rfl rfl rfl rfl ?_
              refine V_gu rfl rfl rfl rfl rfl ?_
              refine V_gu rfl rfl rfl rfl rfl ?_
              refine V_gu rfl rfl rfl rfl rfl ?_
              refine V_gu rfl rfl rfl rfl rfl ?_
              refine V_gu rfl rfl rfl rfl rfl ?_
              refine V_gu rfl rfl rfl rfl rfl ?_
              refine V_gn rfl rfl rfl hc77 rfl rfl rfl ?_
              refine V_y (Y_pick_te rfl hc77 rfl) rfl rfl rfl ?_
              obtain rfl := Option.some.inj hs78
              exact V_end fun a ha => ⟨(), ha.sub ⟨rfl, rfl, rfl, rfl, rfl, rfl, trivial⟩, rfl⟩
            · rw [if_neg (nt hc77)] at hs78
              refine V_ge rfl rfl rfl hc77 ?_
              refine V_y (Y_move rfl) rfl rfl rfl ?_
              refine V_ge rfl rfl rfl hc77 ?_
              refine V_y (Y_move rfl) rfl rfl rfl ?_
              refine V_ge rfl rfl rfl hc77 ?_
              refine V_y (Y_lenStr rfl Tryz.underlying9 rfl) rfl rfl rfl ?_
              refine V_ge rfl rfl rfl hc77 ?_
              refine V_y (Y_lss rfl rfl) rfl rfl rfl ?_
              refine V_ge rfl rfl rfl hc77 ?_
              refine V_y (Y_move rfl) rfl rfl rfl ?_
              obtain ⟨s80, hs80, hs78⟩ := Option.bind_eq_some_iff.1 hs78
              refine V_cut 11 (fun _ : Unit => [(0, .string body), (3, v14), (5, .int .i64 s49.1), (8, .int .i64 (body.size : Int)), (9, .int .i64 s12.2), (80, .bool s75), (96, .bool s80)]) (fun _ w' => w13 = w') ?_ ?_
              · simp only [List.take, List.drop]
                rcases Bool.eq_false_or_eq_true (decide (s49.2 < (body.size : Int))) with hc79 | hc79
                · rw [if_pos hc79] at hs80
                  refine V_ge rfl rfl rfl hc79 ?_
                  refine V_y (Y_move rfl) rfl rfl rfl ?_
                  refine V_ge rfl rfl rfl hc79 ?_
                  refine V_y (Y_move rfl) rfl rfl rfl ?_
                  refine V_ge rfl rfl rfl hc79 ?_
                  obtain ⟨x81, hx81, hs80⟩ := Option.bind_eq_some_iff.1 hs80
                  refine V_y (Y_indexS hx81 Tryz.underlying9 rfl rfl) rfl rfl rfl ?_
                  refine V_ge rfl rfl rfl hc79 ?_
                  refine V_call Tryz.call22 rfl rfl rfl rfl (know_digit_c w13 (x81.toNat : Int)) ?_
                  rintro _ _ ⟨rfl, rfl⟩
                  refine V_ge rfl rfl rfl hc79 ?_
                  refine V_y (Y_move rfl) rfl rfl rfl ?_
                  obtain ⟨s83, hs83, hs80⟩ := Option.bind_eq_some_iff.1 hs80
                  refine V_cut 5 (fun _ : Unit => [(0, .string body), (3, v14), (5, .int .i64 s49.1), (8, .int .i64 (body.size : Int)), (9, .int .i64 s12.2), (80, .bool s75), (85, .bool (decide (s49.2 < (body.size : Int)))), (95, .bool s83)]) (fun _ w' => w13 = w') ?_ ?_
                  · simp only [List.take, List.drop]
                    rcases Bool.eq_false_or_eq_true ((know_digit (x81.toNat : Int))) with hc82 | hc82
                    · rw [if_pos hc82] at hs83
                      refine V_gn rfl rfl rfl hc82 rfl rfl rfl ?_
                      refine V_gn rfl rfl rfl hc82 rfl rfl rfl ?_
                      refine V_gn rfl rfl rfl hc82 rfl rfl rfl ?_
                      refine V_gn rfl rfl rfl hc82 rfl rfl rfl ?_
                      refine V_ge rfl rfl rfl hc79 ?_
                      refine V_y (Y_pick_te rfl hc82 rfl) rfl rfl rfl ?_
                      obtain rfl := Option.some.inj hs83
                      exact V_end fun a ha => ⟨(), ha.sub ⟨rfl, rfl, rfl, rfl, rfl, rfl, rfl, rfl, trivial⟩, rfl⟩
                    · rw [if_neg (nt hc82)] at hs83
                      refine V_ge rfl rfl rfl hc82 ?_
                      refine V_y (Y_move rfl) rfl rfl rfl ?_
                      refine V_ge rfl rfl rfl hc82 ?_
                      refine V_y (Y_move rfl) rfl rfl rfl ?_
                      refine V_ge rfl rfl rfl hc82 ?_
                      refine V_y (Y_indexS hx81 Tryz.underlying9 rfl rfl) rfl rfl rfl ?_
                      refine V_ge rfl rfl rfl hc82 ?_
                      refine V_call Tryz.call21 rfl rfl rfl rfl (know_letter_c w13 (x81.toNat : Int)) ?_
                      rintro _ _ ⟨rfl, rfl⟩
                      refine V_ge rfl rfl rfl hc79 ?_
                      refine V_y (Y_pick_fe rfl hc82 rfl) rfl rfl rfl ?_
                      obtain rfl := Option.some.inj hs83
                      exact V_end fun a ha => ⟨(), ha.sub ⟨rfl, rfl, rfl, rfl, rfl, rfl, rfl, rfl, trivial⟩, rfl⟩
                  simp only [List.take, List.drop]
                  rintro _ _ rfl
                  refine V_ge rfl rfl rfl hc77 ?_
                  refine V_y (Y_pick_te rfl hc79 rfl) rfl rfl rfl ?_
                  obtain rfl := Option.some.inj hs80
                  exact V_end fun a ha => ⟨(), ha.sub ⟨rfl, rfl, rfl, rfl, rfl, rfl, rfl, trivial⟩, rfl⟩
                · rw [if_neg (nt hc79)] at hs80
                  refine V_gn rfl rfl rfl hc79 rfl rfl rfl ?_
                  refine V_gn rfl rfl rfl hc79 rfl rfl rfl ?_
                  refine V_gn rfl rfl rfl hc79 rfl rfl rfl ?_
                  refine V_gn rfl rfl rfl hc79 rfl rfl rfl ?_
                  refine V_gn rfl rfl rfl hc79 rfl rfl rfl ?_
                  refine V_gu rfl rfl rfl rfl rfl ?_
                  refine V_gu rfl rfl rfl rfl rfl ?_
                  refine V_gu rfl rfl rfl rfl rfl ?_
                  refine V_gu rfl rfl rfl rfl rfl ?_
                  refine V_gn rfl rfl rfl hc79 rfl rfl rfl ?_
                  refine V_ge rfl rfl rfl hc77 ?_
                  refine V_y (Y_pick_fe rfl hc79 rfl) rfl rfl rfl ?_
                  obtain rfl := Option.some.inj hs80
                  exact V_end fun a ha => ⟨(), ha.sub ⟨rfl, rfl, rfl, rfl, rfl, rfl, rfl, trivial⟩, rfl⟩
              simp only [List.take, List.drop]
              rintro _ _ rfl
              refine V_y (Y_pick_fe rfl hc77 rfl) rfl rfl rfl ?_
              obtain rfl := Option.some.inj hs78
              exact V_end fun a ha => ⟨(), ha.sub ⟨rfl, rfl, rfl, rfl, rfl, rfl, trivial⟩, rfl⟩
          simp only [List.take, List.drop]
          rintro _ _ rfl
          refine V_to (fun _ _ => rfl) ?_
          refine C_cond rfl (fun hc84 => ?_) (fun hc84 => ?_)
          · rw [if_pos hc84] at ho26
            obtain rfl := Option.some.inj ho26
            refine C_exit (fun a ha85 => ?_)
            exact ⟨(v14, A16), ha85.sub ⟨rfl, rfl, rfl, rfl, trivial⟩, ⟨hH, hr28⟩⟩
          · rw [if_neg (nt hc84)] at ho26
            refine C_skip_to (fun _ _ => rfl) ?_
            refine C_region ?_
            refine V_y (Y_move rfl) rfl rfl rfl ?_
            refine V_y (Y_move rfl) rfl rfl rfl ?_
            refine V_buildSlice (Dw := Dw) (l := ([s49.1] : List Int)) (len := 1) Tryz.underlying23 Tryz.sizeOf3 Tryz.zeroValue3 rfl (by with_unfolding_all rfl) (show (1 * 1 : Nat) ≠ 0 by decide) (show (1 * 1 : Nat) ≤ 2 ^ 24 by decide) hA ⟨[.int .i64 s49.1], _, rfl, rfl, rfl⟩ rfl rfl ?_
            intro v86 w87 hk89 h88
            have ht90 := Kp.tr (Dw := Dw) hk89 hA hB
            replace hH := Hp.kp (Dw := Dw) hH hk89
            replace hK := Tr.trans (Dw := Dw) hK ht90
            replace hr3 := Tr.trans (Dw := Dw) hr3 ht90
            replace hr28 := Tr.trans (Dw := Dw) hr28 ht90
            replace hB := Nat.le_trans hB ht90.ex.size
            replace hA := ht90.new
            obtain ⟨x91, hx91, ho26⟩ := Option.bind_eq_some_iff.1 ho26
            refine V_appendH (Dw := Dw) (e := 3) (v := v14) (l := s12.1) (ti := Tryz.t3) (bytes := 8) (lim := 17592186044416) hH (i := 0) rfl h88 hx91 Tryz.underlying23 Tryz_info3 rfl rfl rfl rfl (by decide) (by decide) (by decide) hB hA rfl rfl rfl ?_
            intro v92 w93 A94 hH95 ht96
            replace h88 := Sl.tr (Dw := Dw) h88 ht96
            replace hK := Tr.trans (Dw := Dw) hK ht96
            replace hr3 := Tr.trans (Dw := Dw) hr3 ht96
            replace hr28 := Tr.trans (Dw := Dw) hr28 ht96
            replace hB := Nat.le_trans hB ht96.ex.size
            replace hA := ht96.new
            replace hH : Hp w.heap.size A94 w93 (obS (α := Int) 3 v92 x91 :: []) := hH95
            refine V_y (Y_assign rfl) rfl rfl rfl ?_
            obtain rfl := Option.some.inj ho26
            refine V_end (fun a ha97 => ?_)
            exact ⟨(v92, A94), ha97.sub ⟨rfl, rfl, rfl, rfl, trivial⟩, ⟨hH, hr28⟩⟩
      rintro ⟨v29, A34⟩ w31 ⟨hH35, hk32⟩ a ha33
      replace hK := Tr.trans (Dw := Dw) hK hk32
      replace hr3 := Tr.trans (Dw := Dw) hr3 hk32
      replace hB := Nat.le_trans hB hk32.ex.size
      replace hA := hk32.new
      replace hH : Hp w.heap.size A34 w31 (obS (α := Int) 3 v29 s27 :: []) := hH35
      refine C_at (n := ⟨107, [], none⟩) (fun _ _ => rfl) ?_ ha33
      refine C_region ?_
      refine V_y (Y_addI rfl rfl) rfl rfl rfl ?_
      refine V_y (Y_move rfl) rfl rfl rfl ?_
      obtain rfl := Option.some.inj h19
      refine V_end (fun a ha98 => ?_)
      exact ⟨(s27, w64 (s12.2 + 1)), h20, ⟨(v29, A34), ha98.sub ⟨rfl, rfl, rfl, rfl, trivial⟩, ⟨hH, hr3⟩⟩⟩
    · rw [if_neg (nt hc25)] at h19
      obtain rfl := Option.some.inj h19
      refine C_exit (fun a ha99 => ?_)
      exact ⟨((s12.1, s12.2), v14, A16), ha99.sub ⟨rfl, trivial⟩, ⟨h20.symm, hH, hr3⟩⟩
  rintro ⟨s2, v8, A10⟩ w5 ⟨rfl, hH11, hk6⟩ a ha7
  rw [Lp.andThen_fin] at hm
  replace hK := Tr.trans (Dw := Dw) hK hk6
  replace hB := Nat.le_trans hB hk6.ex.size
  replace hA := hk6.new
  replace hH : Hp w.heap.size A10 w5 (obS (α := Int) 3 v8 s2.1 :: []) := hH11
  refine C_at (n := ⟨107, [], none⟩) (fun _ _ => rfl) ?_ ha7
  refine C_seq ?_
  refine C_region ?_
  refine V_y (Y_move rfl) rfl rfl rfl ?_
  obtain ⟨x101, hx101, hm⟩ := Option.bind_eq_some_iff.1 hm
  refine V_call Tryz.call23 rfl rfl rfl rfl (Tryz_sortInts (Dw := Dw) hH (i := 0) rfl hB hA hx101) ?_
  rintro _ w102 ⟨rfl, hH103, ht104⟩
  replace hK := Tr.trans (Dw := Dw) hK ht104
  replace hB := Nat.le_trans hB ht104.ex.size
  replace hA := ht104.new
  replace hH : Hp w.heap.size A10 w102 (obS (α := Int) 3 v8 x101 :: []) := hH103
  refine V_to (fun _ _ => rfl) ?_
  refine C_seq ?_
  refine C_region ?_
  refine V_y (Y_move rfl) rfl rfl rfl ?_
  obtain ⟨x105, hx105, hm⟩ := Option.bind_eq_some_iff.1 hm
  refine V_call Tryz.call24 rfl rfl rfl rfl (Tryz_cp24 (Dw := Dw) hH (i := 0) rfl hB hA hx105) ?_
  rintro v109 w106 ⟨_, rfl, hH107, ht108⟩
  replace hK := Tr.trans (Dw := Dw) hK ht108
  replace hB := Nat.le_trans hB ht108.ex.size
  replace hA := ht108.new
  replace hH : Hp w.heap.size A10 w106 (obS (α := Int) 3 v109 x105 :: []) := hH107
  refine V_y (Y_assign rfl) rfl rfl rfl ?_
  refine V_to (fun _ _ => rfl) ?_
  obtain rfl := Option.some.inj hm
  refine C_ret ?_
  try simp only [↓inBlock_ret, ↓then_ret]
  exact retQ rfl (Res.one Tryz.results12 rfl) ⟨v109, rfl, (Hp.ownd hH (i := 0) rfl), hK.kp⟩

set_option maxRecDepth 4000 in
set_option maxHeartbeats 4000000 in
theorem slices_IndexFunc_Lint_int_c (w : World) {A : Nat → Prop} (hA : ∀ b, w.heap.size ≤ b → A b) (s : (List Int)) (v_s : Value) (h_s : Sl A w v_s s) (f : Int → Option Bool) (f_f : FuncId) (f_a f_c : Array Value) (f_call : ∀ (args : Array Value) (w : World), (callFunc f_f args).run Tryz.prog w = .ok (.enter f_f args) w) (f_spec : ∀ (w1 : World) (A1 : Nat → Prop), Tr Dw w.heap.size A w A1 w1 → (∀ b, w1.heap.size ≤ b → A1 b) → ∀ (y0 : Int) (r : Bool), f y0 = some r → Ret Tryz.prog f_f (f_a ++ #[.int .i64 y0] ++ f_c) w1 fun v w' => v = .bool r ∧ Kp Dw w1 w') {r : Int} (hm : slices_IndexFunc_Lint_int s f = some r) : Ret Tryz.prog 20 #[v_s, .func (.func f_f) f_a f_c] w fun v w' => v = .int .i64 r ∧ Kp Dw w w' := by
  unfold slices_IndexFunc_Lint_int at hm
  refine enter Tryz.func20 rfl Tryz.ntmps20 rfl ?_
  have hA0 := hA
  have hB := Nat.le_refl w.heap.size
  have hK : Tr Dw w.heap.size A w A w := Tr.refl (Dw := Dw) hA
  have hH : Hp w.heap.size A w [] := Hp.nil
  refine C_seq ?_
  refine C_region ?_
  refine V_y (Y_assign rfl) rfl rfl rfl ?_
  refine V_to (fun _ _ => rfl) ?_
  refine C_seq ?_
  refine C_seq ?_
  refine C_region ?_
  refine V_y (Y_move rfl) rfl rfl rfl ?_
  refine V_y (Y_lenSl h_s rfl Tryz.underlying23 rfl) rfl rfl rfl ?_
  refine V_y (Y_move rfl) rfl rfl rfl ?_
  refine V_to (fun _ _ => rfl) ?_
  have hn23 := Sl.le h_s
  obtain ⟨o3, ho3, hm⟩ := Option.bind_eq_some_iff.1 hm
  refine C_cutG (ι := (Unit × (Nat → Prop))) (fun ⟨s4, A10⟩ => []) (fun ⟨s4, A10⟩ => fun w' => o3 = .fin s4 ∧ Hp w.heap.size A10 w' ([]) ∧ Tr Dw w.heap.size A w A10 w') ?_ ?_
  · refine C_block ?_
    refine C_range ho3 (fun k6 _ a w' => ∃ i : (Nat → Prop), Has ⟨19, [], none⟩ a ([(0, v_s), (1, .func (.func f_f) f_a f_c), (7, .int .i64 (s.length : Int)), (8, .int .i64 (k6 : Int))]) ∧ Hp w.heap.size i w' ([]) ∧ Tr Dw w.heap.size A w i w') (fun a ha => ⟨A, ha.sub ⟨rfl, rfl, rfl, rfl, trivial⟩, ⟨hH, Tr.refl (Dw := Dw) hA⟩⟩) ?_
    rintro K k6 _ a w13 ⟨A14, ha36, hH15, hr5⟩ hle19 K22 h21
    refine C_of ?_ ha36
    replace h_s := Sl.tr (Dw := Dw) h_s hr5
    replace hK := Tr.trans (Dw := Dw) hK hr5
    replace hB := Nat.le_trans hB hr5.ex.size
    replace hA := hr5.new
    replace hH : Hp w.heap.size A14 w13 ([]) := hH15
    refine C_seq (C_region (V_y (Y_lss rfl rfl) rfl rfl rfl (V_to (fun _ _ => rfl) ?_)))
    refine C_seq ?_
    refine C_cond rfl (fun hc24 => ?_) (fun hc24 => ?_)
    · have hlt20 := lt_of_dec hc24
      obtain ⟨x16, h17, h18⟩ := K22 hlt20
      refine C_skip_to (fun _ _ => rfl) ?_
      refine C_seq ?_
      refine C_block ?_
      refine C_seq ?_
      refine C_region ?_
      refine V_y (Y_move rfl) rfl rfl rfl ?_
      refine V_y (Y_assign rfl) rfl rfl rfl ?_
      refine V_to (fun _ _ => rfl) ?_
      refine C_seq ?_
      refine C_region ?_
      refine V_y (Y_move rfl) rfl rfl rfl ?_
      refine V_y (Y_move rfl) rfl rfl rfl ?_
      refine V_y (Y_move rfl) rfl rfl rfl ?_
      obtain ⟨x25, hx25, h17⟩ := Option.bind_eq_some_iff.1 h17
      refine V_indexAddr h_s hx25 Tryz.underlying23 Tryz.sizeOf3 rfl rfl rfl ?_
      intro b26 o27 h28
      refine V_y (Y_load (El.int h28) Tryz.isAgg3 rfl) rfl rfl rfl ?_
      obtain ⟨x29, hx29, h17⟩ := Option.bind_eq_some_iff.1 h17
      refine V_call f_call rfl rfl rfl rfl (f_spec w13 _ hK hA x25 _ hx29) ?_
      rintro _ w30 ⟨rfl, hk31⟩
      have ht32 := Kp.tr (Dw := Dw) hk31 hA hB
      replace hH := Hp.kp (Dw := Dw) hH hk31
      replace h_s := Sl.tr (Dw := Dw) h_s ht32
      replace h28 := El.tr (Dw := Dw) h28 ht32
      replace hK := Tr.trans (Dw := Dw) hK ht32
      replace hr5 := Tr.trans (Dw := Dw) hr5 ht32
      replace hB := Nat.le_trans hB ht32.ex.size
      replace hA := ht32.new
      refine V_to (fun _ _ => rfl) ?_
      refine C_cond rfl (fun hc33 => ?_) (fun hc33 => ?_)
      · rw [if_pos hc33] at h17
        refine C_seq ?_
        refine C_region ?_
        refine V_y (Y_move rfl) rfl rfl rfl ?_
        refine V_y (Y_assign rfl) rfl rfl rfl ?_
        refine V_to (fun _ _ => rfl) ?_
        obtain rfl := Option.some.inj h17
        obtain rfl := (h18 : Lp.rt _ = _)
        rw [Lp.andThen_rt] at hm
        obtain rfl := Option.some.inj hm
        refine C_ret ?_
        try simp only [↓inBlock_ret, ↓then_ret]
        exact retQ rfl (Res.one Tryz.results20 rfl) ⟨rfl, hK.kp⟩
      · rw [if_neg (nt hc33)] at h17
        refine C_skip_to (fun _ _ => rfl) ?_
        refine C_region ?_
        refine V_y (Y_addI rfl rfl) rfl rfl rfl ?_
        refine V_y (Y_move rfl) rfl rfl rfl ?_
        obtain rfl := Option.some.inj h17
        refine V_end (fun a ha34 => ?_)
        exact ⟨(), hlt20, h18, ⟨A14, ha34.sub ⟨rfl, rfl, rfl, (congrArg (fun z => some (Value.int .i64 z)) (w64_succ hlt20 hn23)), trivial⟩, ⟨hH, hr5⟩⟩⟩
    · refine C_exit (fun a ha35 => ?_)
      exact ⟨((), A14), ha35.sub trivial, ⟨(h21 (eq_of_dec hle19 hc24)).symm, hH, hr5⟩⟩
  rintro ⟨s4, A10⟩ w7 ⟨rfl, hH11, hk8⟩ a ha9
  rw [Lp.andThen_fin] at hm
  replace hK := Tr.trans (Dw := Dw) hK hk8
  replace hB := Nat.le_trans hB hk8.ex.size
  replace hA := hk8.new
  replace hH : Hp w.heap.size A10 w7 ([]) := hH11
  refine C_at (n := ⟨19, [], none⟩) (fun _ _ => rfl) ?_ ha9
  refine C_seq ?_
  refine C_region ?_
  refine V_y (Y_assign rfl) rfl rfl rfl ?_
  refine V_to (fun _ _ => rfl) ?_
  obtain rfl := Option.some.inj hm
  refine C_ret ?_
  try simp only [↓inBlock_ret, ↓then_ret]
  exact retQ rfl (Res.one Tryz.results20 rfl) ⟨rfl, hK.kp⟩

set_option maxRecDepth 4000 in
set_option maxHeartbeats 4000000 in
theorem slices_ContainsFunc_Lint_int_c (w : World) {A : Nat → Prop} (hA : ∀ b, w.heap.size ≤ b → A b) (s : (List Int)) (v_s : Value) (h_s : Sl A w v_s s) (f : Int → Option Bool) (f_f : FuncId) (f_a f_c : Array Value) (f_call : ∀ (args : Array Value) (w : World), (callFunc f_f args).run Tryz.prog w = .ok (.enter f_f args) w) (f_spec : ∀ (w1 : World) (A1 : Nat → Prop), Tr Dw w.heap.size A w A1 w1 → (∀ b, w1.heap.size ≤ b → A1 b) → ∀ (y0 : Int) (r : Bool), f y0 = some r → Ret Tryz.prog f_f (f_a ++ #[.int .i64 y0] ++ f_c) w1 fun v w' => v = .bool r ∧ Kp Dw w1 w') {r : Bool} (hm : slices_ContainsFunc_Lint_int s f = some r) : Ret Tryz.prog 11 #[v_s, .func (.func f_f) f_a f_c] w fun v w' => v = .bool r ∧ Kp Dw w w' := by
  unfold slices_ContainsFunc_Lint_int at hm
  refine enter Tryz.func11 rfl Tryz.ntmps11 rfl ?_
  have hA0 := hA
  have hB := Nat.le_refl w.heap.size
  have hK : Tr Dw w.heap.size A w A w := Tr.refl (Dw := Dw) hA
  have hH : Hp w.heap.size A w [] := Hp.nil
  refine C_seq ?_
  refine C_region ?_
  refine V_y (Y_assign rfl) rfl rfl rfl ?_
  refine V_to (fun _ _ => rfl) ?_
  refine C_seq ?_
  refine C_region ?_
  refine V_y (Y_move rfl) rfl rfl rfl ?_
  refine V_y (Y_move rfl) rfl rfl rfl ?_
  obtain ⟨x3, hx3, hm⟩ := Option.bind_eq_some_iff.1 hm
  refine V_call Tryz.call20 rfl rfl rfl rfl (slices_IndexFunc_Lint_int_c (Dw := Dw) w hA s v_s h_s f f_f f_a f_c f_call (fun w1 A1 ht => f_spec w1 A1 (Tr.trans (Dw := Dw) hK ht)) hx3) ?_
  rintro _ w4 ⟨rfl, hk5⟩
  have ht6 := Kp.tr (Dw := Dw) hk5 hA hB
  replace hH := Hp.kp (Dw := Dw) hH hk5
  replace h_s := Sl.tr (Dw := Dw) h_s ht6
  replace hK := Tr.trans (Dw := Dw) hK ht6
  replace hB := Nat.le_trans hB ht6.ex.size
  replace hA := ht6.new
  refine V_y (Y_geq rfl rfl) rfl rfl rfl ?_
  refine V_y (Y_assign rfl) rfl rfl rfl ?_
  refine V_to (fun _ _ => rfl) ?_
  obtain rfl := Option.some.inj hm
  refine C_ret ?_
  try simp only [↓inBlock_ret, ↓then_ret]
  exact retQ rfl (Res.one Tryz.results11 rfl) ⟨rfl, hK.kp⟩

set_option maxRecDepth 4000 in
set_option maxHeartbeats 4000000 in
theorem know_Stale_2_c (w : World) {A : Nat → Prop} (hA : ∀ b, w.heap.size ≤ b → A b) (n : Int) (p1 : (Fmap Int Bool)) (b_p1 : Nat) (h_p1 : El A w b_p1 0 p1) {r : Bool} (hm : know_Stale_2 n p1 = some r) : Ret Tryz.prog 13 #[.int .i64 n, .pointer (some ⟨b_p1, 0, none⟩)] w fun v w' => v = .bool r ∧ Kp Dw w w' := by
  unfold know_Stale_2 at hm
  refine enter Tryz.func13 rfl Tryz.ntmps13 rfl ?_
  have hA0 := hA
  have hB := Nat.le_refl w.heap.size
  have hK : Tr Dw w.heap.size A w A w := Tr.refl (Dw := Dw) hA
  have hH : Hp w.heap.size A w [] := Hp.nil
  refine C_seq ?_
  refine C_region ?_
  refine V_y (Y_assign rfl) rfl rfl rfl ?_
  refine V_to (fun _ _ => rfl) ?_
  refine C_seq ?_
  refine C_region ?_
  obtain ⟨mb1, h2, h3⟩ := El.map h_p1
  refine V_y (Y_load h2 Tryz.isAgg36 rfl) rfl rfl rfl ?_
  refine V_y (Y_move rfl) rfl rfl rfl ?_
  refine V_y (Y_lookupS (κ := Int) (α := Bool) (z := false) (l := p1.l) (Fm.hp h3) (i := 0) rfl Tryz.underlying36 Tryz.underlying3 Tryz.zeroValue4 rfl rfl rfl) rfl rfl rfl ?_
  refine V_y (Y_not rfl) rfl rfl rfl ?_
  refine V_y (Y_assign rfl) rfl rfl rfl ?_
  refine V_to (fun _ _ => rfl) ?_
  obtain rfl := Option.some.inj hm
  refine C_ret ?_
  try simp only [↓inBlock_ret, ↓then_ret]
  exact retQ rfl (Res.one Tryz.results13 rfl) ⟨rfl, hK.kp⟩

end Go.Proofs.YteoinebegjpodaaGreatDoor.W
