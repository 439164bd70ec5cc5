/-
  Written by program (gen.py) from the IR of the dump: each function computes its model.
-/
import Derived.Test.YtcebkcahemiaoaaProg
import Derived.Test.YtcebkcahemiaoaaGe
import Derived.Test.YtcebkcahemiaoaaCalSetsM
import Derived.KernelRfl
import Derived.Test.YtcebkcahemiaoaaHo
import Derived.Test.YtcebkcahemiaoaaHe
import Derived.Test.YtcebkcahemiaoaaHg
import Derived.Test.YtcebkcahemiaoaaHf
import Derived.Shelf.Slices.CompactI
import Derived.Test.YtcebkcahemiaoaaGz
import Derived.Shelf.Sort.Plain
import Derived.Shelf.Slices.In.SortNone
namespace Go.Proofs.Ytcebkcahemiaoaa.W
open Go Go.RowKit Go.Pu Go.Gw Go.Proofs Go.Proofs.Ytcebkcahemiaoaa.M
set_option linter.unusedVariables false
set_option linter.unusedSimpArgs false
variable {Dw : Prop}

theorem Try_info3 : Try.prog.info? 3 = some Try.t3 := by kernel_rfl
theorem Try_info30 : Try.prog.info? 30 = some Try.t30 := by kernel_rfl
theorem Try_info50 : Try.prog.info? 50 = some Try.t50 := by kernel_rfl
theorem Try_places30 : ∀ fs, Try.prog.underlying 30 = some (.struct fs) → ∀ w : World, (Array.mapM (fun (f : Field) => do pure (f.offset, ← Go.sizeOf f.type)) fs).run Try.prog w = .ok #[(0, 1), (1, 1)] w := by
  intro fs h w
  rw [Try.underlying30] at h
  cases h
  kernel_rfl
theorem Try_places50 : ∀ fs, Try.prog.underlying 50 = some (.struct fs) → ∀ w : World, (Array.mapM (fun (f : Field) => do pure (f.offset, ← Go.sizeOf f.type)) fs).run Try.prog w = .ok #[(0, 1), (1, 1), (2, 1)] w := by
  intro fs h w
  rw [Try.underlying50] at h
  cases h
  kernel_rfl
theorem Try_eqt30_10000 (a0 : Int) (a1 : Int) (b0 : Int) (b1 : Int) (w : World) : (Op.equalIn 10000 30 (.agg #[.int .i64 a0, .int .i64 a1]) (.agg #[.int .i64 b0, .int .i64 b1])).run Try.prog w = .ok (a0 == b0 && (a1 == b1)) w := by
  refine (run_equalIn_struct w 9999 30 _ _ (by kernel_rfl) (by kernel_rfl)).trans ?_
  rw [show Try.prog.fieldsOf 30 = _ from by unfold Program.fieldsOf; rw [Try.underlying30]]
  cases h0 : (a0 == b0) <;> cases h1 : (a1 == b1) <;> simp_all [Op.eqFields, part, strEq, Try.isAgg3, run_equalIn_int _ _ _ _ _ _ _ Try.underlying3]
theorem Try_eqg30 : Try.prog.eqGuardType Try.prog.depth 30 = false := by kernel_rfl
def Try_so_ren : Go.Shelf.Ren := ⟨fun | 125 => 33 | 128 => 47 | 129 => 48 | 189 => 22 | 215 => 37 | 216 => 44 | 257 => 32 | 294 => 38 | 295 => 39 | 296 => 40 | 297 => 41 | 298 => 42 | 299 => 43 | 300 => 45 | 301 => 46 | 328 => 57 | 329 => 58 | 330 => 59 | 331 => 60 | 332 => 61 | 343 => 65 | n => n, fun | 0 => 0 | 1 => 1 | 2 => 2 | 3 => 3 | 4 => 4 | 5 => 5 | 6 => 6 | 7 => 7 | 8 => 8 | 9 => 9 | 10 => 10 | 11 => 11 | 12 => 12 | 13 => 13 | 14 => 14 | 15 => 15 | 16 => 16 | 17 => 17 | 18 => 18 | 19 => 19 | 20 => 20 | 21 => 21 | 28 => 32 | 35 => 43 | 43 => 52 | 45 => 33 | 46 => 56 | 47 => 55 | 51 => 70 | 52 => 69 | 53 => 72 | 54 => 71 | 80 => 90 | 81 => 96 | 111 => 38 | 112 => 65 | 127 => 100 | 131 => 67 | 134 => 54 | 164 => 105 | 181 => 60 | 182 => 61 | 183 => 62 | 184 => 63 | 185 => 64 | 186 => 66 | 187 => 68 | 218 => 78 | 219 => 79 | 220 => 80 | 221 => 81 | 222 => 82 | 223 => 83 | 228 => 86 | 229 => 87 | 230 => 88 | 238 => 91 | 239 => 92 | 240 => 93 | 241 => 94 | 242 => 95 | 243 => 97 | 244 => 98 | 245 => 99 | 246 => 101 | 247 => 102 | 248 => 103 | 249 => 104 | n => n, fun n => n⟩
theorem Try_so : Go.Proofs.Lays.n189 Try.prog Try_so_ren := {
  mixed := by kernel_rfl,
  f125 := Try.func33.trans (congrArg some (by kernel_rfl)),
  f128 := Try.func47.trans (congrArg some (by kernel_rfl)),
  f129 := Try.func48.trans (congrArg some (by kernel_rfl)),
  f189 := Try.func22.trans (congrArg some (by kernel_rfl)),
  f215 := Try.func37.trans (congrArg some (by kernel_rfl)),
  f216 := Try.func44.trans (congrArg some (by kernel_rfl)),
  f257 := Try.func32.trans (congrArg some (by kernel_rfl)),
  f294 := Try.func38.trans (congrArg some (by kernel_rfl)),
  f295 := Try.func39.trans (congrArg some (by kernel_rfl)),
  f296 := Try.func40.trans (congrArg some (by kernel_rfl)),
  f297 := Try.func41.trans (congrArg some (by kernel_rfl)),
  f298 := Try.func42.trans (congrArg some (by kernel_rfl)),
  f299 := Try.func43.trans (congrArg some (by kernel_rfl)),
  f300 := Try.func45.trans (congrArg some (by kernel_rfl)),
  f301 := Try.func46.trans (congrArg some (by kernel_rfl)),
  f328 := Try.func57.trans (congrArg some (by kernel_rfl)),
  f329 := Try.func58.trans (congrArg some (by kernel_rfl)),
  f330 := Try.func59.trans (congrArg some (by kernel_rfl)),
  f331 := Try.func60.trans (congrArg some (by kernel_rfl)),
  f332 := Try.func61.trans (congrArg some (by kernel_rfl)),
  f343 := Try.func65.trans (congrArg some (by kernel_rfl)),
  t0 := Try.underlying0,
  a0 := Try.isAgg0,
  z0 := Try.sizeOf0,
  v0 := Try.zeroValue0,
  t3 := Try.underlying3,
  a3 := Try.isAgg3,
  z3 := Try.sizeOf3,
  v3 := Try.zeroValue3,
  t4 := Try.underlying4,
  a4 := Try.isAgg4,
  z4 := Try.sizeOf4,
  v4 := Try.zeroValue4,
  t5 := Try.underlying5,
  a5 := Try.isAgg5,
  z5 := Try.sizeOf5,
  v5 := Try.zeroValue5,
  t9 := Try.underlying9,
  a9 := Try.isAgg9,
  z9 := Try.sizeOf9,
  v9 := Try.zeroValue9,
  t28 := Try.underlying32,
  a28 := Try.isAgg32,
  z28 := Try.sizeOf32,
  v28 := Try.zeroValue32,
  t46 := Try.underlying56,
  a46 := Try.isAgg56,
  z46 := Try.sizeOf56,
  v46 := Try.zeroValue56,
  t51 := Try.underlying70,
  a51 := Try.isAgg70,
  z51 := Try.sizeOf70,
  v51 := Try.zeroValue70,
  t53 := Try.underlying72,
  a53 := Try.isAgg72,
  z53 := Try.sizeOf72,
  v53 := Try.zeroValue72,
  t131 := Try.underlying67,
  a131 := Try.isAgg67,
  z131 := Try.sizeOf67,
  v131 := Try.zeroValue67,
  t182 := Try.underlying61,
  a182 := Try.isAgg61,
  z182 := Try.sizeOf61,
  v182 := Try.zeroValue61,
  t183 := Try.underlying62,
  a183 := Try.isAgg62,
  z183 := Try.sizeOf62,
  v183 := Try.zeroValue62,
  t218 := Try.underlying78,
  a218 := Try.isAgg78,
  z218 := Try.sizeOf78,
  v218 := Try.zeroValue78,
  t222 := Try.underlying82,
  a222 := Try.isAgg82,
  z222 := Try.sizeOf82,
  v222 := Try.zeroValue82,
  t228 := Try.underlying86,
  a228 := Try.isAgg86,
  z228 := Try.sizeOf86,
  v228 := Try.zeroValue86,
  t229 := Try.underlying87,
  a229 := Try.isAgg87,
  z229 := Try.sizeOf87,
  v229 := Try.zeroValue87 }
theorem Try_sortInts {B : Nat} {A : Nat → Prop} {w : World} {L : List Ob} {i : Nat} {e : TypeId} {v : Value} {l r : List Int} (hH : Hp B A w L) (hi : L[i]? = some (obS (α := Int) e v l)) (hB : B ≤ w.heap.size) (hA : ∀ b, w.heap.size ≤ b → A b) (hr : sortIntsL l = some r) : Ret Try.prog 22 #[v] w fun u w' => u = .tuple #[] ∧ Hp B A w' (L.set i (obS e v r)) ∧ Tr Dw B A w A w' :=
  Hp.sortInts (Dw := Dw) (fun w => Go.Proofs.Any.slices_Sort_int_none Try_so none 0 w) (fun blk off cap zs w h1 h2 h3 => Go.Proofs.Any.slices_Sort_int Try_so blk off cap zs w h1 h2 h3) hH hi hB hA hr
theorem Try_mixed : Try.prog.follows .mixedOrders = true := by kernel_rfl

instance : GoT cal_Span := GoT.of (β := Int × Int) fun x => (x.from_, x.to_)

instance : Flat cal_Span := ⟨fun {A w A1 w1 cs x} h => Flat.flat (α := Int × Int) (x := (x.from_, x.to_)) (A := A) (w := w) h⟩

theorem El_cal_Span_ {A : Nat → Prop} {w : World} {b off : Nat} {x : cal_Span} (h : El A w b off x) : El (α := Int × Int) A w b off (x.from_, x.to_) := h

theorem El_cal_Span_0 {A : Nat → Prop} {w : World} {b off : Nat} {x : cal_Span} (h : El A w b off x) : El A w b (off + 0) x.from_ := El.fst (El_cal_Span_ h)

theorem El_cal_Span_1 {A : Nat → Prop} {w : World} {b off : Nat} {x : cal_Span} (h : El A w b off x) : El A w b (off + 1) x.to_ := El.snd (El_cal_Span_ h)

theorem El_cal_Span {A : Nat → Prop} {w : World} {b off : Nat} {x : cal_Span} (h : El A w b off x) : At w b off [.int .i64 x.from_, .int .i64 x.to_] ∧ True := by
  obtain ⟨h1, h2, cs, h3, h4⟩ := h
  obtain ⟨_, _, rfl, rfl, rfl⟩ := h3
  exact ⟨h4, trivial⟩

instance : GoT cal_edge := GoT.of (β := Int × Int × Int) fun x => (x.at_, x.list_, x.by_)

instance : Flat cal_edge := ⟨fun {A w A1 w1 cs x} h => Flat.flat (α := Int × Int × Int) (x := (x.at_, x.list_, x.by_)) (A := A) (w := w) h⟩

theorem El_cal_edge_ {A : Nat → Prop} {w : World} {b off : Nat} {x : cal_edge} (h : El A w b off x) : El (α := Int × Int × Int) A w b off (x.at_, x.list_, x.by_) := h

theorem El_cal_edge_0 {A : Nat → Prop} {w : World} {b off : Nat} {x : cal_edge} (h : El A w b off x) : El A w b (off + 0) x.at_ := El.fst (El_cal_edge_ h)

theorem El_cal_edge_1 {A : Nat → Prop} {w : World} {b off : Nat} {x : cal_edge} (h : El A w b off x) : El A w b (off + 1) x.list_ := El.fst (El.snd (El_cal_edge_ h))

theorem El_cal_edge_2 {A : Nat → Prop} {w : World} {b off : Nat} {x : cal_edge} (h : El A w b off x) : El A w b (off + 2) x.by_ := El.snd (El.snd (El_cal_edge_ h))

theorem El_cal_edge {A : Nat → Prop} {w : World} {b off : Nat} {x : cal_edge} (h : El A w b off x) : At w b off [.int .i64 x.at_, .int .i64 x.list_, .int .i64 x.by_] ∧ True := by
  obtain ⟨h1, h2, cs, h3, h4⟩ := h
  obtain ⟨_, _, rfl, rfl, ⟨_, _, rfl, rfl, rfl⟩⟩ := h3
  exact ⟨h4, trivial⟩

theorem Rep_cal_edge {A : Nat → Prop} {w : World} {cs : List Value} {x : cal_edge} (h : GoT.rep A w cs x) : cs = [.int .i64 x.at_, .int .i64 x.list_, .int .i64 x.by_] ∧ True := by
  obtain ⟨_, _, rfl, rfl, ⟨_, _, rfl, rfl, rfl⟩⟩ := h
  exact ⟨rfl, trivial⟩

set_option maxRecDepth 4000 in
set_option maxHeartbeats 4000000 in
theorem cal_within_c (w : World) (n : Int) (low : Int) (high : Int) : Ret Try.prog 35 #[.int .i64 n, .int .i64 low, .int .i64 high] w fun v w' => v = .bool (cal_within n low high) ∧ w = w' := by
  generalize hm : cal_within n low high = r
  unfold cal_within at hm
  refine enter Try.func35 rfl Try.ntmps35 rfl ?_
  refine C_seq ?_
  refine C_region ?_
  refine V_y (Y_assign rfl) rfl rfl rfl ?_
  refine V_to (fun _ _ => rfl) ?_
  refine C_seq ?_
  refine C_region ?_
  refine V_y (Y_move rfl) rfl rfl rfl ?_
  refine V_y (Y_move rfl) rfl rfl rfl ?_
  refine V_y (Y_geq rfl rfl) rfl rfl rfl ?_
  refine V_y (Y_move rfl) rfl rfl rfl ?_
  refine V_cut 4 (fun _ : Unit => [(14, .bool ((decide (low ≤ n)) && (decide (n ≤ high))))]) (fun _ w' => w = w') ?_ ?_
  · simp only [List.take, List.drop]
    rcases Bool.eq_false_or_eq_true (decide (low ≤ n)) with hc1 | hc1
    · refine V_ge rfl rfl rfl hc1 ?_
      refine V_y (Y_move rfl) rfl rfl rfl ?_
      refine V_ge rfl rfl rfl hc1 ?_
      refine V_y (Y_move rfl) rfl rfl rfl ?_
      refine V_ge rfl rfl rfl hc1 ?_
      refine V_y (Y_leq rfl rfl) rfl rfl rfl ?_
      refine V_y (Y_pick_te rfl hc1 rfl) rfl rfl rfl ?_
      exact V_end fun a ha => ⟨(), ha.sub ⟨(by rw [hc1]; rfl), trivial⟩, rfl⟩
    · refine V_gn rfl rfl rfl hc1 rfl rfl rfl ?_
      refine V_gn rfl rfl rfl hc1 rfl rfl rfl ?_
      refine V_gn rfl rfl rfl hc1 rfl rfl rfl ?_
      refine V_y (Y_pick_fe rfl hc1 rfl) rfl rfl rfl ?_
      exact V_end fun a ha => ⟨(), ha.sub ⟨(by rw [hc1]; rfl), trivial⟩, rfl⟩
  simp only [List.take, List.drop]
  rintro _ _ rfl
  refine V_y (Y_assign rfl) rfl rfl rfl ?_
  refine V_to (fun _ _ => rfl) ?_
  obtain rfl := hm
  refine C_ret ?_
  try simp only [↓inBlock_ret, ↓then_ret]
  exact retQ rfl (Res.one Try.results35 rfl) ⟨rfl, rfl⟩

set_option maxRecDepth 4000 in
set_option maxHeartbeats 4000000 in
theorem cal_checkSpan_c (w : World) {A : Nat → Prop} (hA : ∀ b, w.heap.size ≤ b → A b) (s : cal_Span) {r : Int} (hm : cal_checkSpan s = some r) : Ret Try.prog 26 #[.agg #[.int .i64 s.from_, .int .i64 s.to_]] w fun v w' => v = .int .i64 r ∧ Kp Dw w w' := by
  unfold cal_checkSpan at hm
  refine enter Try.func26 rfl Try.ntmps26 rfl ?_
  have hA0 := hA
  have hB := Nat.le_refl w.heap.size
  have hK : Tr Dw w.heap.size A w A w := Tr.refl (Dw := Dw) hA
  have hH : Hp w.heap.size A w [] := Hp.nil
  refine C_seq ?_
  refine C_region ?_
  refine V_box rfl rfl ?_
  intro b1 w2 h3
  have hk5 := h3.kp (Dw := Dw)
  have h4 : El (α := cal_Span) A w2 b1 0 s := h3.el hA ⟨[.int .i64 s.from_], _, rfl, rfl, rfl⟩
  have ht6 := Kp.tr (Dw := Dw) hk5 hA hB
  replace hH := Hp.kp (Dw := Dw) hH hk5
  replace hK := Tr.trans (Dw := Dw) hK ht6
  replace hB := Nat.le_trans hB ht6.ex.size
  replace hA := ht6.new
  refine V_y (Y_assign rfl) rfl rfl rfl ?_
  refine V_to (fun _ _ => rfl) ?_
  refine C_seq ?_
  refine C_block ?_
  refine C_seq ?_
  refine C_region ?_
  have h7 := El_cal_Span_0 h4
  refine V_y (Y_fieldAddr Try.underlying30 rfl Try.sizeOf3 (by decide) rfl) rfl rfl rfl ?_
  refine V_y (Y_load (El.int h7) Try.isAgg3 rfl) rfl rfl rfl ?_
  refine V_call Try.call35 rfl rfl rfl rfl (cal_within_c w2 s.from_ 0 3000000) ?_
  rintro _ _ ⟨rfl, rfl⟩
  refine V_y (Y_not rfl) rfl rfl rfl ?_
  refine V_y (Y_move rfl) rfl rfl rfl ?_
  refine V_cut 5 (fun _ : Unit => [(1, .pointer (some ⟨b1, 0, none⟩)), (13, .bool ((!(cal_within s.from_ 0 3000000)) || (!(cal_within s.to_ 0 3000001))))]) (fun _ w' => w2 = w') ?_ ?_
  · simp only [List.take, List.drop]
    rcases Bool.eq_false_or_eq_true (!(cal_within s.from_ 0 3000000)) with hc8 | hc8
    · refine V_gn rfl rfl rfl hc8 rfl rfl rfl ?_
      refine V_gn rfl rfl rfl hc8 rfl rfl rfl ?_
      refine V_gn rfl rfl rfl hc8 rfl rfl rfl ?_
      refine V_gn rfl rfl rfl hc8 rfl rfl rfl ?_
      refine V_y (Y_pick_te rfl hc8 rfl) rfl rfl rfl ?_
      exact V_end fun a ha => ⟨(), ha.sub ⟨rfl, (by rw [hc8]; rfl), trivial⟩, rfl⟩
    · refine V_ge rfl rfl rfl hc8 ?_
      have h10 := El_cal_Span_1 h4
      refine V_y (Y_fieldAddr Try.underlying30 rfl Try.sizeOf3 (by decide) rfl) rfl rfl rfl ?_
      refine V_ge rfl rfl rfl hc8 ?_
      refine V_y (Y_load (El.int h10) Try.isAgg3 rfl) rfl rfl rfl ?_
      refine V_ge rfl rfl rfl hc8 ?_
      refine V_call Try.call35 rfl rfl rfl rfl (cal_within_c w2 s.to_ 0 3000001) ?_
      rintro _ _ ⟨rfl, rfl⟩
      refine V_ge rfl rfl rfl hc8 ?_
      refine V_y (Y_not rfl) rfl rfl rfl ?_
      refine V_y (Y_pick_fe rfl hc8 rfl) rfl rfl rfl ?_
      exact V_end fun a ha => ⟨(), ha.sub ⟨rfl, (by rw [hc8]; rfl), trivial⟩, rfl⟩
  simp only [List.take, List.drop]
  rintro _ _ rfl
  refine V_y (Y_assign rfl) rfl rfl rfl ?_
  refine V_to (fun _ _ => rfl) ?_
  refine C_cond rfl (fun hc11 => ?_) (fun hc11 => ?_)
  · rw [if_pos hc11] at hm
    refine C_seq ?_
    refine C_region ?_
    refine V_y (Y_assign rfl) rfl rfl rfl ?_
    refine V_to (fun _ _ => rfl) ?_
    obtain rfl := Option.some.inj hm
    refine C_ret ?_
    try simp only [↓inBlock_ret, ↓then_ret]
    exact retQ rfl (Res.one Try.results26 rfl) ⟨rfl, hK.kp⟩
  · rw [if_neg (nt hc11)] at hm
    refine C_seq ?_
    refine C_region ?_
    have h12 := El_cal_Span_1 h4
    refine V_y (Y_fieldAddr Try.underlying30 rfl Try.sizeOf3 (by decide) rfl) rfl rfl rfl ?_
    refine V_y (Y_load (El.int h12) Try.isAgg3 rfl) rfl rfl rfl ?_
    have h13 := El_cal_Span_0 h4
    refine V_y (Y_fieldAddr Try.underlying30 rfl Try.sizeOf3 (by decide) rfl) rfl rfl rfl ?_
    refine V_y (Y_load (El.int h13) Try.isAgg3 rfl) rfl rfl rfl ?_
    refine V_y (Y_leq rfl rfl) rfl rfl rfl ?_
    refine V_y (Y_assign rfl) rfl rfl rfl ?_
    refine V_to (fun _ _ => rfl) ?_
    refine C_cond rfl (fun hc14 => ?_) (fun hc14 => ?_)
    · rw [if_pos hc14] at hm
      refine C_seq ?_
      refine C_region ?_
      refine V_y (Y_assign rfl) rfl rfl rfl ?_
      refine V_to (fun _ _ => rfl) ?_
      obtain rfl := Option.some.inj hm
      refine C_ret ?_
      try simp only [↓inBlock_ret, ↓then_ret]
      exact retQ rfl (Res.one Try.results26 rfl) ⟨rfl, hK.kp⟩
    · rw [if_neg (nt hc14)] at hm
      refine C_skip_to (fun _ _ => rfl) ?_
      refine C_seq ?_
      refine C_region ?_
      refine V_y (Y_assign rfl) rfl rfl rfl ?_
      refine V_to (fun _ _ => rfl) ?_
      obtain rfl := Option.some.inj hm
      refine C_ret ?_
      try simp only [↓inBlock_ret, ↓then_ret]
      exact retQ rfl (Res.one Try.results26 rfl) ⟨rfl, hK.kp⟩

set_option maxRecDepth 4000 in
set_option maxHeartbeats 4000000 in
theorem cal_CheckSpans_c (w : World) {A : Nat → Prop} (hA : ∀ b, w.heap.size ≤ b → A b) (l : (List cal_Span)) (v_l : Value) (h_l : Sl A w v_l l) {r : Int} (hm : cal_CheckSpans l = some r) : Ret Try.prog 18 #[v_l] w fun v w' => v = .int .i64 r ∧ Kp Dw w w' := by
  unfold cal_CheckSpans at hm
  refine enter Try.func18 rfl Try.ntmps18 rfl ?_
  have hA0 := hA
  have hB := Nat.le_refl w.heap.size
  have hK : Tr Dw w.heap.size A w A w := Tr.refl (Dw := Dw) hA
  have hH : Hp w.heap.size A w [] := Hp.nil
  refine C_seq ?_
  refine C_region ?_
  refine V_y (Y_assign rfl) rfl rfl rfl ?_
  refine V_to (fun _ _ => rfl) ?_
  refine C_seq ?_
  refine C_seq ?_
  refine C_region ?_
  refine V_y (Y_move rfl) rfl rfl rfl ?_
  refine V_y (Y_lenSl h_l rfl Try.underlying22 rfl) rfl rfl rfl ?_
  refine V_y (Y_gtr rfl rfl) rfl rfl rfl ?_
  refine V_to (fun _ _ => rfl) ?_
  refine C_cond rfl (fun hc3 => ?_) (fun hc3 => ?_)
  · rw [if_pos hc3] at hm
    refine C_seq ?_
    refine C_region ?_
    refine V_y (Y_assign rfl) rfl rfl rfl ?_
    refine V_to (fun _ _ => rfl) ?_
    obtain rfl := Option.some.inj hm
    refine C_ret ?_
    try simp only [↓inBlock_ret, ↓then_ret]
    exact retQ rfl (Res.one Try.results18 rfl) ⟨rfl, hK.kp⟩
  · rw [if_neg (nt hc3)] at hm
    refine C_skip_to (fun _ _ => rfl) ?_
    refine C_seq ?_
    refine C_seq ?_
    refine C_region ?_
    refine V_y (Y_move rfl) rfl rfl rfl ?_
    refine V_y (Y_lenSl h_l rfl Try.underlying22 rfl) rfl rfl rfl ?_
    refine V_y (Y_move rfl) rfl rfl rfl ?_
    refine V_to (fun _ _ => rfl) ?_
    have hn25 := Sl.le h_l
    obtain ⟨o4, ho4, hm⟩ := Option.bind_eq_some_iff.1 hm
    refine C_cutG (ι := (Unit × (Nat → Prop))) (fun ⟨s5, A12⟩ => []) (fun ⟨s5, A12⟩ => fun w' => o4 = .fin s5 ∧ Hp w.heap.size A12 w' ([]) ∧ Tr Dw w.heap.size A w A12 w') ?_ ?_
    · refine C_block ?_
      refine C_range ho4 (fun k7 _ a w' => ∃ i : (Nat → Prop), Has ⟨35, [], none⟩ a ([(0, v_l), (9, v_l), (10, .int .i64 (l.length : Int)), (11, .int .i64 (k7 : Int))]) ∧ Hp w.heap.size i w' ([]) ∧ Tr Dw w.heap.size A w i w') (fun a ha => ⟨A, ha.sub ⟨rfl, rfl, rfl, rfl, trivial⟩, ⟨hH, Tr.refl (Dw := Dw) hA⟩⟩) ?_
      rintro K k7 _ a w15 ⟨A16, ha60, hH17, hr6⟩ hle21 K24 h23
      refine C_of ?_ ha60
      replace h_l := Sl.tr (Dw := Dw) h_l hr6
      replace hK := Tr.trans (Dw := Dw) hK hr6
      replace hB := Nat.le_trans hB hr6.ex.size
      replace hA := hr6.new
      replace hH : Hp w.heap.size A16 w15 ([]) := hH17
      refine C_seq (C_region (V_y (Y_lss rfl rfl) rfl rfl rfl (V_to (fun _ _ => rfl) ?_)))
      refine C_seq ?_
      refine C_cond rfl (fun hc26 => ?_) (fun hc26 => ?_)
      · have hlt22 := lt_of_dec hc26
        obtain ⟨x18, h19, h20⟩ := K24 hlt22
        refine C_skip_to (fun _ _ => rfl) ?_
        refine C_seq ?_
        refine C_block ?_
        refine C_seq ?_
        refine C_region ?_
        refine V_y (Y_move rfl) rfl rfl rfl ?_
        obtain ⟨x27, hx27, h19⟩ := Option.bind_eq_some_iff.1 h19
        refine V_indexAddr h_l hx27 Try.underlying22 Try.sizeOf30 rfl rfl rfl ?_
        intro b28 o29 h30
        obtain ⟨h31, _⟩ := El_cal_Span h30
        refine V_y (Y_loadA h31 Try.isAgg30 Try.sizeOf30 rfl) rfl rfl rfl ?_
        refine V_alloc Try.zeroValue30 rfl ?_
        intro b32 w33 h34
        refine V_y (Y_assign rfl) rfl rfl rfl ?_
        refine V_storeNew h34 Try.sizeOf30 rfl rfl rfl rfl (by exact (List.forall_mem_cons.2 ⟨rfl, (List.forall_mem_cons.2 ⟨rfl, (fun _ h => nomatch h)⟩)⟩)) ?_
        intro w35 h36
        have hk38 := h36.kp (Dw := Dw)
        have h37 : El (α := cal_Span) A16 w35 b32 0 x27 := h36.el hA ⟨[.int .i64 x27.from_], _, rfl, rfl, rfl⟩
        have ht39 := Kp.tr (Dw := Dw) hk38 hA hB
        replace hH := Hp.kp (Dw := Dw) hH hk38
        replace h_l := Sl.tr (Dw := Dw) h_l ht39
        replace h30 := El.tr (Dw := Dw) h30 ht39
        replace hK := Tr.trans (Dw := Dw) hK ht39
        replace hr6 := Tr.trans (Dw := Dw) hr6 ht39
        replace hB := Nat.le_trans hB ht39.ex.size
        replace hA := ht39.new
        refine V_to (fun _ _ => rfl) ?_
        refine C_seq ?_
        refine C_seq ?_
        refine C_region ?_
        obtain ⟨h40, _⟩ := El_cal_Span h37
        refine V_y (Y_loadA h40 Try.isAgg30 Try.sizeOf30 rfl) rfl rfl rfl ?_
        obtain ⟨x41, hx41, h19⟩ := Option.bind_eq_some_iff.1 h19
        refine V_call Try.call26 rfl rfl rfl rfl (cal_checkSpan_c (Dw := Dw) w35 hA x27 hx41) ?_
        rintro _ w42 ⟨rfl, hk43⟩
        have ht44 := Kp.tr (Dw := Dw) hk43 hA hB
        replace hH := Hp.kp (Dw := Dw) hH hk43
        replace h_l := Sl.tr (Dw := Dw) h_l ht44
        replace h37 := El.tr (Dw := Dw) h37 ht44
        replace hK := Tr.trans (Dw := Dw) hK ht44
        replace hr6 := Tr.trans (Dw := Dw) hr6 ht44
        replace hB := Nat.le_trans hB ht44.ex.size
        replace hA := ht44.new
        refine V_y (Y_assign rfl) rfl rfl rfl ?_
        refine V_to (fun _ _ => rfl) ?_
        refine C_seq ?_
        refine C_region ?_
        refine V_y (Y_move rfl) rfl rfl rfl ?_
        refine V_y (Y_neq rfl rfl) rfl rfl rfl ?_
        refine V_to (fun _ _ => rfl) ?_
        refine C_cond rfl (fun hc45 => ?_) (fun hc45 => ?_)
        · rw [if_pos hc45] at h19
          refine C_seq ?_
          refine C_region ?_
          refine V_y (Y_move rfl) rfl rfl rfl ?_
          refine V_y (Y_assign rfl) rfl rfl rfl ?_
          refine V_to (fun _ _ => rfl) ?_
          obtain rfl := Option.some.inj h19
          obtain rfl := (h20 : Lp.rt _ = _)
          rw [Lp.andThen_rt] at hm
          obtain rfl := Option.some.inj hm
          refine C_ret ?_
          try simp only [↓inBlock_ret, ↓then_ret]
          exact retQ rfl (Res.one Try.results18 rfl) ⟨rfl, hK.kp⟩
        · rw [if_neg (nt hc45)] at h19
          refine C_skip_to (fun _ _ => rfl) ?_
          refine C_seq ?_
          refine C_region_q (Dw := Dw) Try_mixed (by kernel_rfl) ?_
          refine VQ_y (fun w' hw' => Y_move rfl) rfl rfl rfl ?_
          refine VQ_y (fun w' hw' => Y_gtr rfl rfl) rfl rfl rfl ?_
          refine VQ_y (fun w' hw' => Y_move rfl) rfl rfl rfl ?_
          obtain ⟨s47, hs47, h19⟩ := Option.bind_eq_some_iff.1 h19
          refine VQ_cut 10 (fun _ : Unit => [(0, v_l), (9, v_l), (10, .int .i64 (l.length : Int)), (11, .int .i64 (k7 : Int)), (33, .bool s47)]) (fun _ => True) ?_ ?_
          · simp only [List.take, List.drop]
            rcases Bool.eq_false_or_eq_true (decide ((0 : Int) < (k7 : Int))) with hc46 | hc46
            · rw [if_pos hc46] at hs47
              refine VQ_ge rfl rfl rfl hc46 ?_
              have h48 := El_cal_Span_0 h37
              refine VQ_y (fun w' hw' => Y_fieldAddr Try.underlying30 rfl Try.sizeOf3 (by decide) rfl) rfl rfl rfl ?_
              refine VQ_ge rfl rfl rfl hc46 ?_
              refine VQ_y (fun w' hw' => Y_load (El.int (El.kp (Dw := Dw) h48 hw')) Try.isAgg3 rfl) rfl rfl rfl ?_
              refine VQ_ge rfl rfl rfl hc46 ?_
              refine VQ_y (fun w' hw' => Y_move rfl) rfl rfl rfl ?_
              refine VQ_ge rfl rfl rfl hc46 ?_
              refine VQ_y (fun w' hw' => Y_move rfl) rfl rfl rfl ?_
              refine VQ_ge rfl rfl rfl hc46 ?_
              refine VQ_y (fun w' hw' => Y_subI rfl rfl) rfl rfl rfl ?_
              refine VQ_ge rfl rfl rfl hc46 ?_
              obtain ⟨x49, hx49, hs47⟩ := Option.bind_eq_some_iff.1 hs47
              refine VQ_indexAddr h_l hx49 Try.underlying22 Try.sizeOf30 rfl rfl rfl ?_
              intro b50 o51 h52
              refine VQ_ge rfl rfl rfl hc46 ?_
              have h53 := El_cal_Span_1 h52
              refine VQ_y (fun w' hw' => Y_fieldAddr Try.underlying30 rfl Try.sizeOf3 (by decide) rfl) rfl rfl rfl ?_
              refine VQ_ge rfl rfl rfl hc46 ?_
              refine VQ_y (fun w' hw' => Y_load (El.int (El.kp (Dw := Dw) h53 hw')) Try.isAgg3 rfl) rfl rfl rfl ?_
              refine VQ_ge rfl rfl rfl hc46 ?_
              refine VQ_y (fun w' hw' => Y_leq rfl rfl) rfl rfl rfl ?_
              refine VQ_y (fun _ _ => Y_pick_te rfl hc46 rfl) rfl rfl rfl ?_
              obtain rfl := Option.some.inj hs47
              exact VQ_end fun a ha => ⟨(), ha.sub ⟨rfl, rfl, rfl, rfl, rfl, trivial⟩, trivial⟩
            · rw [if_neg (nt hc46)] at hs47
              refine VQ_gn rfl rfl rfl hc46 rfl rfl rfl ?_
              refine VQ_gn rfl rfl rfl hc46 rfl rfl rfl ?_
              refine VQ_gn rfl rfl rfl hc46 rfl rfl rfl ?_
              refine VQ_gn rfl rfl rfl hc46 rfl rfl rfl ?_
              refine VQ_gn rfl rfl rfl hc46 rfl rfl rfl ?_
              refine VQ_gn rfl rfl rfl hc46 rfl rfl rfl ?_
              refine VQ_gn rfl rfl rfl hc46 rfl rfl rfl ?_
              refine VQ_gn rfl rfl rfl hc46 rfl rfl rfl ?_
              refine VQ_gn rfl rfl rfl hc46 rfl rfl rfl ?_
              refine VQ_y (fun _ _ => Y_pick_fe rfl hc46 rfl) rfl rfl rfl ?_
              obtain rfl := Option.some.inj hs47
              exact VQ_end fun a ha => ⟨(), ha.sub ⟨rfl, rfl, rfl, rfl, rfl, trivial⟩, trivial⟩
          simp only [List.take, List.drop]
          rintro _ _
          refine VQ_to (fun _ _ => rfl) (fun w54 hk55 => ?_)
          have ht56 := Kp.tr (Dw := Dw) hk55 hA hB
          replace hH := Hp.kp (Dw := Dw) hH hk55
          replace h_l := Sl.tr (Dw := Dw) h_l ht56
          replace hK := Tr.trans (Dw := Dw) hK ht56
          replace hr6 := Tr.trans (Dw := Dw) hr6 ht56
          replace hB := Nat.le_trans hB ht56.ex.size
          replace hA := ht56.new
          refine C_cond rfl (fun hc57 => ?_) (fun hc57 => ?_)
          · rw [if_pos hc57] at h19
            refine C_seq ?_
            refine C_region ?_
            refine V_y (Y_assign rfl) rfl rfl rfl ?_
            refine V_to (fun _ _ => rfl) ?_
            obtain rfl := Option.some.inj h19
            obtain rfl := (h20 : Lp.rt _ = _)
            rw [Lp.andThen_rt] at hm
            obtain rfl := Option.some.inj hm
            refine C_ret ?_
            try simp only [↓inBlock_ret, ↓then_ret]
            exact retQ rfl (Res.one Try.results18 rfl) ⟨rfl, hK.kp⟩
          · rw [if_neg (nt hc57)] at h19
            refine C_skip_to (fun _ _ => rfl) ?_
            refine C_region ?_
            refine V_y (Y_addI rfl rfl) rfl rfl rfl ?_
            refine V_y (Y_move rfl) rfl rfl rfl ?_
            obtain rfl := Option.some.inj h19
            refine V_end (fun a ha58 => ?_)
            exact ⟨(), hlt22, h20, ⟨A16, ha58.sub ⟨rfl, rfl, rfl, (congrArg (fun z => some (Value.int .i64 z)) (w64_succ hlt22 hn25)), trivial⟩, ⟨hH, hr6⟩⟩⟩
      · refine C_exit (fun a ha59 => ?_)
        exact ⟨((), A16), ha59.sub trivial, ⟨(h23 (eq_of_dec hle21 hc26)).symm, hH, hr6⟩⟩
    rintro ⟨s5, A12⟩ w9 ⟨rfl, hH13, hk10⟩ a ha11
    rw [Lp.andThen_fin] at hm
    replace hK := Tr.trans (Dw := Dw) hK hk10
    replace hB := Nat.le_trans hB hk10.ex.size
    replace hA := hk10.new
    replace hH : Hp w.heap.size A12 w9 ([]) := hH13
    refine C_at (n := ⟨35, [], none⟩) (fun _ _ => rfl) ?_ ha11
    refine C_seq ?_
    refine C_region ?_
    refine V_y (Y_assign rfl) rfl rfl rfl ?_
    refine V_to (fun _ _ => rfl) ?_
    obtain rfl := Option.some.inj hm
    refine C_ret ?_
    try simp only [↓inBlock_ret, ↓then_ret]
    exact retQ rfl (Res.one Try.results18 rfl) ⟨rfl, hK.kp⟩

set_option maxRecDepth 4000 in
set_option maxHeartbeats 4000000 in
theorem cmp_Or_api_Errno_c (w : World) {A : Nat → Prop} (vals : (List Int)) (v_vals : Value) (h_vals : Sl A w v_vals vals) {r : Int} (hm : cmp_Or_api_Errno vals = some r) : Ret Try.prog 17 #[v_vals] w fun v w' => v = .int .i64 r ∧ w = w' := by
  unfold cmp_Or_api_Errno at hm
  refine enter Try.func17 rfl Try.ntmps17 rfl ?_
  refine C_seq ?_
  refine C_region ?_
  refine V_y (Y_assign rfl) rfl rfl rfl ?_
  refine V_to (fun _ _ => rfl) ?_
  refine C_seq ?_
  refine C_region ?_
  refine V_y (Y_assign rfl) rfl rfl rfl ?_
  refine V_to (fun _ _ => rfl) ?_
  refine C_seq ?_
  refine C_seq ?_
  refine C_region ?_
  refine V_y (Y_move rfl) rfl rfl rfl ?_
  refine V_y (Y_lenSl h_vals rfl Try.underlying47 rfl) rfl rfl rfl ?_
  refine V_y (Y_move rfl) rfl rfl rfl ?_
  refine V_to (fun _ _ => rfl) ?_
  have hn19 := Sl.le h_vals
  obtain ⟨o3, ho3, hm⟩ := Option.bind_eq_some_iff.1 hm
  refine C_cutG (ι := Unit) (fun (s4 : Unit) => [(3, .int .i64 0)]) (fun (s4 : Unit) => fun w' => o3 = .fin s4 ∧ w = w') ?_ ?_
  · refine C_block ?_
    refine C_range ho3 (fun k6 _ a w' => ∃ i : Unit, Has ⟨18, [], none⟩ a ([(3, .int .i64 0), (6, v_vals), (7, .int .i64 (vals.length : Int)), (8, .int .i64 (k6 : Int))]) ∧ w = w') (fun a ha => ⟨(), ha.sub ⟨rfl, rfl, rfl, rfl, trivial⟩, rfl⟩) ?_
    rintro K k6 _ a _ ⟨_, ha28, rfl⟩ hle15 K18 h17
    refine C_of ?_ ha28
    refine C_seq (C_region (V_y (Y_lss rfl rfl) rfl rfl rfl (V_to (fun _ _ => rfl) ?_)))
    refine C_seq ?_
    refine C_cond rfl (fun hc20 => ?_) (fun hc20 => ?_)
    · have hlt16 := lt_of_dec hc20
      obtain ⟨x12, h13, h14⟩ := K18 hlt16
      refine C_skip_to (fun _ _ => rfl) ?_
      refine C_seq ?_
      refine C_block ?_
      refine C_seq ?_
      refine C_region ?_
      obtain ⟨x21, hx21, h13⟩ := Option.bind_eq_some_iff.1 h13
      refine V_indexAddr h_vals hx21 Try.underlying47 Try.sizeOf25 rfl rfl rfl ?_
      intro b22 o23 h24
      refine V_y (Y_load (El.int h24) Try.isAgg25 rfl) rfl rfl rfl ?_
      refine V_y (Y_assign rfl) rfl rfl rfl ?_
      refine V_to (fun _ _ => rfl) ?_
      refine C_seq ?_
      refine C_region ?_
      refine V_y (Y_move rfl) rfl rfl rfl ?_
      refine V_y (Y_move rfl) rfl rfl rfl ?_
      refine V_y (Y_neq rfl rfl) rfl rfl rfl ?_
      refine V_to (fun _ _ => rfl) ?_
      refine C_cond rfl (fun hc25 => ?_) (fun hc25 => ?_)
      · rw [if_pos hc25] at h13
        refine C_seq ?_
        refine C_region ?_
        refine V_y (Y_move rfl) rfl rfl rfl ?_
        refine V_y (Y_assign rfl) rfl rfl rfl ?_
        refine V_to (fun _ _ => rfl) ?_
        obtain rfl := Option.some.inj h13
        obtain rfl := (h14 : Lp.rt _ = _)
        rw [Lp.andThen_rt] at hm
        obtain rfl := Option.some.inj hm
        refine C_ret ?_
        try simp only [↓inBlock_ret, ↓then_ret]
        exact retQ rfl (Res.one Try.results17 rfl) ⟨rfl, rfl⟩
      · rw [if_neg (nt hc25)] at h13
        refine C_skip_to (fun _ _ => rfl) ?_
        refine C_region ?_
        refine V_y (Y_addI rfl rfl) rfl rfl rfl ?_
        refine V_y (Y_move rfl) rfl rfl rfl ?_
        obtain rfl := Option.some.inj h13
        refine V_end (fun a ha26 => ?_)
        exact ⟨(), hlt16, h14, ⟨(), ha26.sub ⟨rfl, rfl, rfl, (congrArg (fun z => some (Value.int .i64 z)) (w64_succ hlt16 hn19)), trivial⟩, rfl⟩⟩
    · refine C_exit (fun a ha27 => ?_)
      exact ⟨(), ha27.sub ⟨rfl, trivial⟩, ⟨(h17 (eq_of_dec hle15 hc20)).symm, rfl⟩⟩
  rintro s4 _ ⟨rfl, rfl⟩ a ha9
  rw [Lp.andThen_fin] at hm
  refine C_at (n := ⟨18, [], none⟩) (fun _ _ => rfl) ?_ ha9
  refine C_seq ?_
  refine C_region ?_
  refine V_y (Y_move rfl) rfl rfl rfl ?_
  refine V_y (Y_assign rfl) rfl rfl rfl ?_
  refine V_to (fun _ _ => rfl) ?_
  obtain rfl := Option.some.inj hm
  refine C_ret ?_
  try simp only [↓inBlock_ret, ↓then_ret]
  exact retQ rfl (Res.one Try.results17 rfl) ⟨rfl, rfl⟩

set_option maxRecDepth 4000 in
set_option maxHeartbeats 4000000 in
theorem cmp_isNaN_int_c (w : World) (x : Int) : Ret Try.prog 37 #[.int .i64 x] w fun v w' => v = .bool (cmp_isNaN_int x) ∧ w = w' := by
  generalize hm : cmp_isNaN_int x = r
  unfold cmp_isNaN_int at hm
  refine enter Try.func37 rfl Try.ntmps37 rfl ?_
  refine C_seq ?_
  refine C_region ?_
  refine V_y (Y_assign rfl) rfl rfl rfl ?_
  refine V_to (fun _ _ => rfl) ?_
  refine C_seq ?_
  refine C_region ?_
  refine V_y (Y_move rfl) rfl rfl rfl ?_
  refine V_y (Y_move rfl) rfl rfl rfl ?_
  refine V_y (Y_neq rfl rfl) rfl rfl rfl ?_
  refine V_y (Y_assign rfl) rfl rfl rfl ?_
  refine V_to (fun _ _ => rfl) ?_
  obtain rfl := hm
  refine C_ret ?_
  try simp only [↓inBlock_ret, ↓then_ret]
  exact retQ rfl (Res.one Try.results37 rfl) ⟨rfl, rfl⟩

set_option maxRecDepth 4000 in
set_option maxHeartbeats 4000000 in
theorem cmp_Compare_int_c (w : World) (x : Int) (y : Int) : Ret Try.prog 29 #[.int .i64 x, .int .i64 y] w fun v w' => v = .int .i64 (cmp_Compare_int x y) ∧ w = w' := by
  generalize hm : cmp_Compare_int x y = r
  unfold cmp_Compare_int at hm
  refine enter Try.func29 rfl Try.ntmps29 rfl ?_
  refine C_seq ?_
  refine C_region ?_
  refine V_y (Y_assign rfl) rfl rfl rfl ?_
  refine V_to (fun _ _ => rfl) ?_
  refine C_seq ?_
  refine C_region ?_
  refine V_y (Y_move rfl) rfl rfl rfl ?_
  refine V_call Try.call37 rfl rfl rfl rfl (cmp_isNaN_int_c w x) ?_
  rintro _ _ ⟨rfl, rfl⟩
  refine V_y (Y_assign rfl) rfl rfl rfl ?_
  refine V_to (fun _ _ => rfl) ?_
  refine C_seq ?_
  refine C_region ?_
  refine V_y (Y_move rfl) rfl rfl rfl ?_
  refine V_call Try.call37 rfl rfl rfl rfl (cmp_isNaN_int_c w y) ?_
  rintro _ _ ⟨rfl, rfl⟩
  refine V_y (Y_assign rfl) rfl rfl rfl ?_
  refine V_to (fun _ _ => rfl) ?_
  refine C_seq ?_
  refine C_seq ?_
  refine C_region ?_
  refine V_y (Y_move rfl) rfl rfl rfl ?_
  refine V_to (fun _ _ => rfl) ?_
  refine C_cond rfl (fun hc1 => ?_) (fun hc1 => ?_)
  · rw [if_pos hc1] at hm
    refine C_seq ?_
    refine C_seq ?_
    refine C_region ?_
    refine V_y (Y_move rfl) rfl rfl rfl ?_
    refine V_to (fun _ _ => rfl) ?_
    refine C_cond rfl (fun hc2 => ?_) (fun hc2 => ?_)
    · rw [if_pos hc2] at hm
      refine C_seq ?_
      refine C_region ?_
      refine V_y (Y_assign rfl) rfl rfl rfl ?_
      refine V_to (fun _ _ => rfl) ?_
      obtain rfl := hm
      refine C_ret ?_
      try simp only [↓inBlock_ret, ↓then_ret]
      exact retQ rfl (Res.one Try.results29 rfl) ⟨rfl, rfl⟩
    · rw [if_neg (nt hc2)] at hm
      refine C_skip_to (fun _ _ => rfl) ?_
      refine C_seq ?_
      refine C_region ?_
      refine V_y (Y_assign rfl) rfl rfl rfl ?_
      refine V_to (fun _ _ => rfl) ?_
      obtain rfl := hm
      refine C_ret ?_
      try simp only [↓inBlock_ret, ↓then_ret]
      exact retQ rfl (Res.one Try.results29 rfl) ⟨rfl, rfl⟩
  · rw [if_neg (nt hc1)] at hm
    refine C_skip_to (fun _ _ => rfl) ?_
    refine C_seq ?_
    refine C_seq ?_
    refine C_region ?_
    refine V_y (Y_move rfl) rfl rfl rfl ?_
    refine V_to (fun _ _ => rfl) ?_
    refine C_cond rfl (fun hc3 => ?_) (fun hc3 => ?_)
    · rw [if_pos hc3] at hm
      refine C_seq ?_
      refine C_region ?_
      refine V_y (Y_assign rfl) rfl rfl rfl ?_
      refine V_to (fun _ _ => rfl) ?_
      obtain rfl := hm
      refine C_ret ?_
      try simp only [↓inBlock_ret, ↓then_ret]
      exact retQ rfl (Res.one Try.results29 rfl) ⟨rfl, rfl⟩
    · rw [if_neg (nt hc3)] at hm
      refine C_skip_to (fun _ _ => rfl) ?_
      refine C_seq ?_
      refine C_seq ?_
      refine C_region ?_
      refine V_y (Y_move rfl) rfl rfl rfl ?_
      refine V_y (Y_move rfl) rfl rfl rfl ?_
      refine V_y (Y_lss rfl rfl) rfl rfl rfl ?_
      refine V_to (fun _ _ => rfl) ?_
      refine C_cond rfl (fun hc4 => ?_) (fun hc4 => ?_)
      · rw [if_pos hc4] at hm
        refine C_seq ?_
        refine C_region ?_
        refine V_y (Y_assign rfl) rfl rfl rfl ?_
        refine V_to (fun _ _ => rfl) ?_
        obtain rfl := hm
        refine C_ret ?_
        try simp only [↓inBlock_ret, ↓then_ret]
        exact retQ rfl (Res.one Try.results29 rfl) ⟨rfl, rfl⟩
      · rw [if_neg (nt hc4)] at hm
        refine C_skip_to (fun _ _ => rfl) ?_
        refine C_seq ?_
        refine C_seq ?_
        refine C_region ?_
        refine V_y (Y_move rfl) rfl rfl rfl ?_
        refine V_y (Y_move rfl) rfl rfl rfl ?_
        refine V_y (Y_gtr rfl rfl) rfl rfl rfl ?_
        refine V_to (fun _ _ => rfl) ?_
        refine C_cond rfl (fun hc5 => ?_) (fun hc5 => ?_)
        · rw [if_pos hc5] at hm
          refine C_seq ?_
          refine C_region ?_
          refine V_y (Y_assign rfl) rfl rfl rfl ?_
          refine V_to (fun _ _ => rfl) ?_
          obtain rfl := hm
          refine C_ret ?_
          try simp only [↓inBlock_ret, ↓then_ret]
          exact retQ rfl (Res.one Try.results29 rfl) ⟨rfl, rfl⟩
        · rw [if_neg (nt hc5)] at hm
          refine C_skip_to (fun _ _ => rfl) ?_
          refine C_seq ?_
          refine C_region ?_
          refine V_y (Y_assign rfl) rfl rfl rfl ?_
          refine V_to (fun _ _ => rfl) ?_
          obtain rfl := hm
          refine C_ret ?_
          try simp only [↓inBlock_ret, ↓then_ret]
          exact retQ rfl (Res.one Try.results29 rfl) ⟨rfl, rfl⟩

set_option maxRecDepth 4000 in
set_option maxHeartbeats 4000000 in
theorem cal_swept_1_c (w : World) {A : Nat → Prop} (hA : ∀ b, w.heap.size ≤ b → A b) (a_ : cal_edge) (b : cal_edge) {r : Int} (hm : cal_swept_1 a_ b = some r) : Ret Try.prog 28 #[.agg #[.int .i64 a_.at_, .int .i64 a_.list_, .int .i64 a_.by_], .agg #[.int .i64 b.at_, .int .i64 b.list_, .int .i64 b.by_]] w fun v w' => v = .int .i64 r ∧ Kp Dw w w' := by
  unfold cal_swept_1 at hm
  refine enter Try.func28 rfl Try.ntmps28 rfl ?_
  have hA0 := hA
  have hB := Nat.le_refl w.heap.size
  have hK : Tr Dw w.heap.size A w A w := Tr.refl (Dw := Dw) hA
  have hH : Hp w.heap.size A w [] := Hp.nil
  refine C_seq ?_
  refine C_region ?_
  refine V_box rfl rfl ?_
  intro b1 w2 h3
  have hk5 := h3.kp (Dw := Dw)
  have h4 : El (α := cal_edge) A w2 b1 0 a_ := h3.el hA ⟨[.int .i64 a_.at_], _, rfl, rfl, ⟨[.int .i64 a_.list_], _, rfl, rfl, rfl⟩⟩
  have ht6 := Kp.tr (Dw := Dw) hk5 hA hB
  replace hH := Hp.kp (Dw := Dw) hH hk5
  replace hK := Tr.trans (Dw := Dw) hK ht6
  replace hB := Nat.le_trans hB ht6.ex.size
  replace hA := ht6.new
  refine V_box rfl rfl ?_
  intro b7 w9 h10
  have hk12 := h10.kp (Dw := Dw)
  have h11 : El (α := cal_edge) A w9 b7 0 b := h10.el hA ⟨[.int .i64 b.at_], _, rfl, rfl, ⟨[.int .i64 b.list_], _, rfl, rfl, rfl⟩⟩
  have ht13 := Kp.tr (Dw := Dw) hk12 hA hB
  replace hH := Hp.kp (Dw := Dw) hH hk12
  replace h4 := El.tr (Dw := Dw) h4 ht13
  replace hK := Tr.trans (Dw := Dw) hK ht13
  replace hB := Nat.le_trans hB ht13.ex.size
  replace hA := ht13.new
  refine V_y (Y_assign rfl) rfl rfl rfl ?_
  refine V_to (fun _ _ => rfl) ?_
  refine C_seq ?_
  refine C_region ?_
  have h14 := El_cal_edge_0 h4
  refine V_y (Y_fieldAddr Try.underlying50 rfl Try.sizeOf3 (by decide) rfl) rfl rfl rfl ?_
  refine V_y (Y_load (El.int h14) Try.isAgg3 rfl) rfl rfl rfl ?_
  have h15 := El_cal_edge_0 h11
  refine V_y (Y_fieldAddr Try.underlying50 rfl Try.sizeOf3 (by decide) rfl) rfl rfl rfl ?_
  refine V_y (Y_load (El.int h15) Try.isAgg3 rfl) rfl rfl rfl ?_
  refine V_call Try.call29 rfl rfl rfl rfl (cmp_Compare_int_c w9 a_.at_ b.at_) ?_
  rintro _ _ ⟨rfl, rfl⟩
  refine V_y (Y_assign rfl) rfl rfl rfl ?_
  refine V_to (fun _ _ => rfl) ?_
  obtain rfl := Option.some.inj hm
  refine C_ret ?_
  try simp only [↓inBlock_ret, ↓then_ret]
  exact retQ rfl (Res.one Try.results28 rfl) ⟨rfl, hK.kp⟩

def Try_sf27_ren : Go.Shelf.Ren := ⟨fun | 6 => 27 | 14 => 36 | 15 => 33 | 20 => 49 | 21 => 50 | 22 => 51 | 23 => 52 | 24 => 53 | 25 => 54 | 26 => 55 | 27 => 56 | 28 => 47 | 29 => 48 | 46 => 62 | 47 => 58 | 48 => 59 | 49 => 63 | 50 => 64 | 57 => 66 | n => n, fun | 0 => 0 | 1 => 1 | 2 => 2 | 3 => 3 | 4 => 4 | 5 => 5 | 6 => 6 | 7 => 7 | 8 => 8 | 9 => 9 | 10 => 10 | 11 => 11 | 12 => 12 | 13 => 13 | 14 => 14 | 15 => 15 | 16 => 16 | 17 => 17 | 18 => 18 | 19 => 19 | 20 => 20 | 21 => 21 | 22 => 48 | 23 => 51 | 24 => 50 | 25 => 53 | 27 => 32 | 29 => 52 | 30 => 43 | 37 => 59 | 38 => 55 | 39 => 56 | 42 => 38 | 44 => 73 | 45 => 61 | 46 => 62 | 47 => 74 | 48 => 75 | 49 => 76 | 50 => 67 | 51 => 77 | 52 => 69 | 53 => 70 | 54 => 71 | 55 => 72 | 66 => 78 | 67 => 79 | 68 => 80 | 69 => 84 | 70 => 82 | 71 => 85 | 76 => 86 | 77 => 87 | 78 => 89 | 81 => 90 | 82 => 91 | 83 => 92 | 84 => 93 | 85 => 94 | 86 => 95 | 87 => 96 | 88 => 97 | 89 => 98 | 90 => 99 | 91 => 100 | 92 => 101 | 93 => 102 | 94 => 103 | 95 => 104 | 96 => 105 | n => n, fun n => n⟩
theorem Try_sf27_lay : Go.Proofs.SlLaysF0.n6 Try.prog Try_sf27_ren := {
  mixed := by kernel_rfl,
  f6 := ⟨ "slices.SortFunc[[]porterslodge/cal.edge,porterslodge/cal.edge]", by kernel_rfl, Try.func27.trans (congrArg some (by kernel_rfl))⟩,
  f14 := ⟨ "slices.pdqsortCmpFunc[porterslodge/cal.edge]", by kernel_rfl, Try.func36.trans (congrArg some (by kernel_rfl))⟩,
  f15 := Try.func33.trans (congrArg some (by kernel_rfl)),
  f20 := ⟨ "slices.insertionSortCmpFunc[porterslodge/cal.edge]", by kernel_rfl, Try.func49.trans (congrArg some (by kernel_rfl))⟩,
  f21 := ⟨ "slices.heapSortCmpFunc[porterslodge/cal.edge]", by kernel_rfl, Try.func50.trans (congrArg some (by kernel_rfl))⟩,
  f22 := ⟨ "slices.breakPatternsCmpFunc[porterslodge/cal.edge]", by kernel_rfl, Try.func51.trans (congrArg some (by kernel_rfl))⟩,
  f23 := ⟨ "slices.choosePivotCmpFunc[porterslodge/cal.edge]", by kernel_rfl, Try.func52.trans (congrArg some (by kernel_rfl))⟩,
  f24 := ⟨ "slices.reverseRangeCmpFunc[porterslodge/cal.edge]", by kernel_rfl, Try.func53.trans (congrArg some (by kernel_rfl))⟩,
  f25 := ⟨ "slices.partialInsertionSortCmpFunc[porterslodge/cal.edge]", by kernel_rfl, Try.func54.trans (congrArg some (by kernel_rfl))⟩,
  f26 := ⟨ "slices.partitionEqualCmpFunc[porterslodge/cal.edge]", by kernel_rfl, Try.func55.trans (congrArg some (by kernel_rfl))⟩,
  f27 := ⟨ "slices.partitionCmpFunc[porterslodge/cal.edge]", by kernel_rfl, Try.func56.trans (congrArg some (by kernel_rfl))⟩,
  f28 := Try.func47.trans (congrArg some (by kernel_rfl)),
  f29 := Try.func48.trans (congrArg some (by kernel_rfl)),
  f46 := ⟨ "slices.siftDownCmpFunc[porterslodge/cal.edge]", by kernel_rfl, Try.func62.trans (congrArg some (by kernel_rfl))⟩,
  f47 := Try.func58.trans (congrArg some (by kernel_rfl)),
  f48 := Try.func59.trans (congrArg some (by kernel_rfl)),
  f49 := ⟨ "slices.medianAdjacentCmpFunc[porterslodge/cal.edge]", by kernel_rfl, Try.func63.trans (congrArg some (by kernel_rfl))⟩,
  f50 := ⟨ "slices.medianCmpFunc[porterslodge/cal.edge]", by kernel_rfl, Try.func64.trans (congrArg some (by kernel_rfl))⟩,
  f57 := ⟨ "slices.order2CmpFunc[porterslodge/cal.edge]", by kernel_rfl, Try.func66.trans (congrArg some (by kernel_rfl))⟩,
  t0 := Try.underlying0,
  a0 := Try.isAgg0,
  z0 := Try.sizeOf0,
  v0 := Try.zeroValue0,
  t3 := Try.underlying3,
  a3 := Try.isAgg3,
  z3 := Try.sizeOf3,
  v3 := Try.zeroValue3,
  t4 := Try.underlying4,
  a4 := Try.isAgg4,
  z4 := Try.sizeOf4,
  v4 := Try.zeroValue4,
  t5 := Try.underlying5,
  a5 := Try.isAgg5,
  z5 := Try.sizeOf5,
  v5 := Try.zeroValue5,
  t9 := Try.underlying9,
  a9 := Try.isAgg9,
  z9 := Try.sizeOf9,
  v9 := Try.zeroValue9,
  t22 := Try.underlying48,
  a22 := Try.isAgg48,
  z22 := Try.sizeOf48,
  v22 := Try.zeroValue48,
  t25 := Try.underlying53,
  a25 := Try.isAgg53,
  z25 := Try.sizeOf53,
  v25 := Try.zeroValue53,
  t39 := Try.underlying56,
  a39 := Try.isAgg56,
  z39 := Try.sizeOf56,
  v39 := Try.zeroValue56,
  t45 := Try.underlying61,
  a45 := Try.isAgg61,
  z45 := Try.sizeOf61,
  v45 := Try.zeroValue61,
  t46 := Try.underlying62,
  a46 := Try.isAgg62,
  z46 := Try.sizeOf62,
  v46 := Try.zeroValue62,
  t50 := Try.underlying67,
  a50 := Try.isAgg67,
  z50 := Try.sizeOf67,
  v50 := Try.zeroValue67,
  t53 := Try.underlying70,
  a53 := Try.isAgg70,
  z53 := Try.sizeOf70,
  v53 := Try.zeroValue70,
  t55 := Try.underlying72,
  a55 := Try.isAgg72,
  z55 := Try.sizeOf72,
  v55 := Try.zeroValue72,
  t66 := Try.underlying78,
  a66 := Try.isAgg78,
  z66 := Try.sizeOf78,
  v66 := Try.zeroValue78,
  t70 := Try.underlying82,
  a70 := Try.isAgg82,
  z70 := Try.sizeOf82,
  v70 := Try.zeroValue82,
  t76 := Try.underlying86,
  a76 := Try.isAgg86,
  z76 := Try.sizeOf86,
  v76 := Try.zeroValue86,
  t77 := Try.underlying87,
  a77 := Try.isAgg87,
  z77 := Try.sizeOf87,
  v77 := Try.zeroValue87 }
theorem Try_sf27 {cmp : cal_edge → cal_edge → Int} {enc : cal_edge → List Value} {l r : List cal_edge} (hrep : ∀ (A : Nat → Prop) (w : World) (cs : List Value) (x : cal_edge), GoT.rep A w cs x → cs = enc x) (hback : ∀ (A : Nat → Prop) (w : World) (x : cal_edge), GoT.rep A w (enc x) x) {g : FuncId} {cb : Array Value} {B : Nat} {A : Nat → Prop} {w : World} {L : List Ob} {i : Nat} {v : Value} (eg : ∀ (args : Array Value) (w : World), (callFunc g args).run Try.prog w = .ok (.enter g args) w) (hcl : ∀ (w1 : World), Tr True B A w A w1 → (∀ b, w1.heap.size ≤ b → A b) → ∀ (x y : cal_edge), Ret Try.prog g (#[.agg (enc x).toArray, .agg (enc y).toArray] ++ cb) w1 fun v w' => v = .int .i64 (cmp x y) ∧ Kp True w1 w') (hH : Hp B A w L) (hi : L[i]? = some (obS (α := cal_edge) 50 v l)) (hB : B ≤ w.heap.size) (hA : ∀ b, w.heap.size ≤ b → A b) (hr : sortFuncP cmp l = some r) : Ret Try.prog 27 #[v, .func (.func g) #[] cb] w fun u w' => u = .tuple #[] ∧ Hp B A w' (L.set i (obS (α := cal_edge) 50 v r)) ∧ Tr Dw B A w A w' :=
  Hp.sortFuncP (Dw := Dw) hrep hback (fun p c w => Go.Proofs.AnyF.slices_SortFunc_none Try_sf27_lay p c _ w) (fun hk hone hO blk off cap d w hc hh hb hs => Go.Proofs.AnyQ.slices_SortFunc_eq Try_sf27_lay _ Try.isAgg50 Try.sizeOf50 enc hk hone cmp hO g cb blk off cap d w eg hc hh hb hs) hcl hH hi hB hA hr

set_option maxRecDepth 4000 in
set_option maxHeartbeats 4000000 in
theorem cal_swept_c (w : World) {A : Nat → Prop} (hA : ∀ b, w.heap.size ≤ b → A b) (lists : (List (List cal_Span))) (v_lists : Value) (h_lists : Sl A w v_lists lists) (wanted : (List Int) → Option Bool) (wanted_f : FuncId) (wanted_a wanted_c : Array Value) (wanted_call : ∀ (args : Array Value) (w : World), (callFunc wanted_f args).run Try.prog w = .ok (.enter wanted_f args) w) (wanted_spec : ∀ (w1 : World) (A1 : Nat → Prop), Tr Dw w.heap.size A w A1 w1 → (∀ b, w1.heap.size ≤ b → A1 b) → ∀ (A2 : Nat → Prop) (y0 : (List Int)) (v1 : Value) (h2 : Sl A2 w1 v1 y0) (r : Bool), wanted y0 = some r → Ret Try.prog wanted_f (wanted_a ++ #[v1] ++ wanted_c) w1 fun v w' => v = .bool r ∧ Kp Dw w1 w') {r : (List cal_Span)} (hm : cal_swept lists wanted = some r) : Ret Try.prog 20 #[v_lists, .func (.func wanted_f) wanted_a wanted_c] w fun v w' => ∃ s0, v = s0 ∧ Ownd 30 w w' s0 r ∧ Kp Dw w w' := by
  unfold cal_swept at hm
  refine enter Try.func20 rfl Try.ntmps20 rfl ?_
  have hA0 := hA
  have hB := Nat.le_refl w.heap.size
  have hK : Tr Dw w.heap.size A w A w := Tr.refl (Dw := Dw) hA
  have hH : Hp w.heap.size A w [] := Hp.nil
  refine C_seq ?_
  refine C_region ?_
  refine V_y (Y_assign rfl) rfl rfl rfl ?_
  refine V_to (fun _ _ => rfl) ?_
  refine C_seq ?_
  refine C_region ?_
  refine V_y (Y_assign rfl) rfl rfl rfl ?_
  refine V_to (fun _ _ => rfl) ?_
  refine C_seq ?_
  refine C_seq ?_
  refine C_region ?_
  refine V_y (Y_move rfl) rfl rfl rfl ?_
  refine V_y (Y_lenSl h_lists rfl Try.underlying34 rfl) rfl rfl rfl ?_
  refine V_y (Y_move rfl) rfl rfl rfl ?_
  refine V_to (fun _ _ => rfl) ?_
  replace hH : Hp w.heap.size A w (obS (α := cal_edge) 50 (.slice none 0 0) ([] : (List cal_edge)) :: []) := Hp.addNil (α := cal_edge) (e := 50) hH
  have hn27 := Sl.le h_lists
  obtain ⟨o3, ho3, hm⟩ := Option.bind_eq_some_iff.1 hm
  refine C_cutG (ι := ((List cal_edge) × Value × (Nat → Prop))) (fun ⟨s4, v10, A12⟩ => [(0, v_lists), (1, .func (.func wanted_f) wanted_a wanted_c), (5, v10)]) (fun ⟨s4, v10, A12⟩ => fun w' => o3 = .fin s4 ∧ Hp w.heap.size A12 w' (obS (α := cal_edge) 50 v10 s4 :: []) ∧ Tr Dw w.heap.size A w A12 w') ?_ ?_
  · refine C_block ?_
    refine C_range ho3 (fun k6 s14 a w' => ∃ i : (Value × (Nat → Prop)), Has ⟨130, [], none⟩ a ([(0, v_lists), (1, .func (.func wanted_f) wanted_a wanted_c), (5, i.1), (16, v_lists), (17, .int .i64 (lists.length : Int)), (18, .int .i64 (k6 : Int))]) ∧ Hp w.heap.size i.2 w' (obS (α := cal_edge) 50 i.1 s14 :: []) ∧ Tr Dw w.heap.size A w i.2 w') (fun a ha => ⟨(.slice none 0 0, A), ha.sub ⟨rfl, rfl, rfl, rfl, rfl, rfl, trivial⟩, ⟨hH, Tr.refl (Dw := Dw) hA⟩⟩) ?_
    rintro K k6 s14 a w15 ⟨⟨v16, A18⟩, ha106, hH19, hr5⟩ hle23 K26 h25
    refine C_of ?_ ha106
    replace h_lists := Sl.tr (Dw := Dw) h_lists hr5
    replace hK := Tr.trans (Dw := Dw) hK hr5
    replace hB := Nat.le_trans hB hr5.ex.size
    replace hA := hr5.new
    replace hH : Hp w.heap.size A18 w15 (obS (α := cal_edge) 50 v16 s14 :: []) := hH19
    refine C_seq (C_region (V_y (Y_lss rfl rfl) rfl rfl rfl (V_to (fun _ _ => rfl) ?_)))
    refine C_seq ?_
    refine C_cond rfl (fun hc28 => ?_) (fun hc28 => ?_)
    · have hlt24 := lt_of_dec hc28
      obtain ⟨x20, h21, h22⟩ := K26 hlt24
      refine C_skip_to (fun _ _ => rfl) ?_
      refine C_seq ?_
      obtain ⟨s30, ho29, h21⟩ := Option.bind_eq_some_iff.1 h21
      refine C_cutG (ι := (Value × (Nat → Prop))) (fun ⟨v32, A37⟩ => [(0, v_lists), (1, .func (.func wanted_f) wanted_a wanted_c), (5, v32), (16, v_lists), (17, .int .i64 (lists.length : Int)), (18, .int .i64 (k6 : Int))]) (fun ⟨v32, A37⟩ => fun w' => Hp w.heap.size A37 w' (obS (α := cal_edge) 50 v32 s30 :: []) ∧ Tr Dw w.heap.size A18 w15 A37 w') ?_ ?_
      · have hr31 : Tr Dw w.heap.size A18 w15 A18 w15 := Tr.refl (Dw := Dw) hA
        refine C_block ?_
        refine C_seq ?_
        refine C_region ?_
        refine V_y (Y_move rfl) rfl rfl rfl ?_
        obtain ⟨x39, hx39, ho29⟩ := Option.bind_eq_some_iff.1 ho29
        refine V_indexAddr h_lists hx39 Try.underlying34 Try.sizeOf22 rfl rfl rfl ?_
        intro b40 o41 h42
        obtain ⟨v43, h44, h45⟩ := El.list h42
        refine V_y (Y_load h44 Try.isAgg22 rfl) rfl rfl rfl ?_
        refine V_y (Y_assign rfl) rfl rfl rfl ?_
        refine V_y (Y_assign rfl) rfl rfl rfl ?_
        refine V_to (fun _ _ => rfl) ?_
        refine C_seq ?_
        refine C_region ?_
        refine V_y (Y_move rfl) rfl rfl rfl ?_
        refine V_y (Y_lenSl h45 rfl Try.underlying22 rfl) rfl rfl rfl ?_
        refine V_y (Y_move rfl) rfl rfl rfl ?_
        refine V_to (fun _ _ => rfl) ?_
        have hn70 := Sl.le h45
        obtain ⟨o46, ho46, ho29⟩ := Option.bind_eq_some_iff.1 ho29
        refine C_cutG (ι := ((List cal_edge) × Value × (Nat → Prop))) (fun ⟨s47, v53, A55⟩ => [(0, v_lists), (1, .func (.func wanted_f) wanted_a wanted_c), (5, v53), (16, v_lists), (17, .int .i64 (lists.length : Int)), (18, .int .i64 (k6 : Int))]) (fun ⟨s47, v53, A55⟩ => fun w' => o46 = .fin s47 ∧ Hp w.heap.size A55 w' (obS (α := cal_edge) 50 v53 s47 :: []) ∧ Tr Dw w.heap.size A18 w15 A55 w') ?_ ?_
        · refine C_block ?_
          refine C_range ho46 (fun k49 s57 a w' => ∃ i : (Value × (Nat → Prop)), Has ⟨130, [], none⟩ a ([(0, v_lists), (1, .func (.func wanted_f) wanted_a wanted_c), (5, i.1), (6, .int .i64 (k6 : Int)), (16, v_lists), (17, .int .i64 (lists.length : Int)), (18, .int .i64 (k6 : Int)), (23, v43), (24, .int .i64 (x39.length : Int)), (25, .int .i64 (k49 : Int))]) ∧ Hp w.heap.size i.2 w' (obS (α := cal_edge) 50 i.1 s57 :: []) ∧ Tr Dw w.heap.size A18 w15 i.2 w') (fun a ha => ⟨(v16, A18), ha.sub ⟨rfl, rfl, rfl, rfl, rfl, rfl, rfl, rfl, rfl, rfl, trivial⟩, ⟨hH, Tr.refl (Dw := Dw) hA⟩⟩) ?_
          rintro K k49 s57 a w58 ⟨⟨v59, A61⟩, ha102, hH62, hr48⟩ hle66 K69 h68
          refine C_of ?_ ha102
          replace h_lists := Sl.tr (Dw := Dw) h_lists hr48
          replace h45 := Sl.tr (Dw := Dw) h45 hr48
          replace hK := Tr.trans (Dw := Dw) hK hr48
          replace hr5 := Tr.trans (Dw := Dw) hr5 hr48
          replace hr31 := Tr.trans (Dw := Dw) hr31 hr48
          replace hB := Nat.le_trans hB hr48.ex.size
          replace hA := hr48.new
          replace hH : Hp w.heap.size A61 w58 (obS (α := cal_edge) 50 v59 s57 :: []) := hH62
          refine C_seq (C_region (V_y (Y_lss rfl rfl) rfl rfl rfl (V_to (fun _ _ => rfl) ?_)))
          refine C_seq ?_
          refine C_cond rfl (fun hc71 => ?_) (fun hc71 => ?_)
          · have hlt67 := lt_of_dec hc71
            obtain ⟨x63, h64, h65⟩ := K69 hlt67
            refine C_skip_to (fun _ _ => rfl) ?_
            refine C_seq ?_
            refine C_block ?_
            refine C_seq ?_
            refine C_region ?_
            obtain ⟨x72, hx72, h64⟩ := Option.bind_eq_some_iff.1 h64
            refine V_indexAddr h45 hx72 Try.underlying22 Try.sizeOf30 rfl rfl rfl ?_
            intro b73 o74 h75
            obtain ⟨h76, _⟩ := El_cal_Span h75
            refine V_y (Y_loadA h76 Try.isAgg30 Try.sizeOf30 rfl) rfl rfl rfl ?_
            refine V_alloc Try.zeroValue30 rfl ?_
            intro b77 w78 h79
            refine V_storeNew h79 Try.sizeOf30 rfl rfl rfl rfl (by exact (List.forall_mem_cons.2 ⟨rfl, (List.forall_mem_cons.2 ⟨rfl, (fun _ h => nomatch h)⟩)⟩)) ?_
            intro w80 h81
            have hk83 := h81.kp (Dw := Dw)
            have h82 : El (α := cal_Span) A61 w80 b77 0 x72 := h81.el hA ⟨[.int .i64 x72.from_], _, rfl, rfl, rfl⟩
            have ht84 := Kp.tr (Dw := Dw) hk83 hA hB
            replace hH := Hp.kp (Dw := Dw) hH hk83
            replace h_lists := Sl.tr (Dw := Dw) h_lists ht84
            replace h45 := Sl.tr (Dw := Dw) h45 ht84
            replace h75 := El.tr (Dw := Dw) h75 ht84
            replace hK := Tr.trans (Dw := Dw) hK ht84
            replace hr5 := Tr.trans (Dw := Dw) hr5 ht84
            replace hr31 := Tr.trans (Dw := Dw) hr31 ht84
            replace hr48 := Tr.trans (Dw := Dw) hr48 ht84
            replace hB := Nat.le_trans hB ht84.ex.size
            replace hA := ht84.new
            refine V_to (fun _ _ => rfl) ?_
            refine C_region ?_
            refine V_y (Y_move rfl) rfl rfl rfl ?_
            have h85 := El_cal_Span_0 h82
            refine V_y (Y_fieldAddr Try.underlying30 rfl Try.sizeOf3 (by decide) rfl) rfl rfl rfl ?_
            refine V_y (Y_load (El.int h85) Try.isAgg3 rfl) rfl rfl rfl ?_
            refine V_y (Y_move rfl) rfl rfl rfl ?_
            refine V_y (Y_build Try.underlying50 Try.zeroValue50 (Try_places50 _ Try.underlying50) rfl (by with_unfolding_all rfl)) rfl rfl rfl ?_
            have h86 := El_cal_Span_1 h82
            refine V_y (Y_fieldAddr Try.underlying30 rfl Try.sizeOf3 (by decide) rfl) rfl rfl rfl ?_
            refine V_y (Y_load (El.int h86) Try.isAgg3 rfl) rfl rfl rfl ?_
            refine V_y (Y_move rfl) rfl rfl rfl ?_
            refine V_y (Y_build Try.underlying50 Try.zeroValue50 (Try_places50 _ Try.underlying50) rfl (by with_unfolding_all rfl)) rfl rfl rfl ?_
            refine V_buildSlice (Dw := Dw) (cells := #[.int .i64 x72.from_, .int .i64 (k6 : Int), .int .i64 1, .int .i64 x72.to_, .int .i64 (k6 : Int), .int .i64 (-1)]) (l := ([(⟨x72.from_, (k6 : Int), 1⟩ : cal_edge), (⟨x72.to_, (k6 : Int), (-1)⟩ : cal_edge)] : List cal_edge)) (len := 2) Try.underlying48 Try.sizeOf50 Try.zeroValue50 rfl (by generalize ((k6 : Int) : Int) = z91; generalize ((-1) : Int) = z92; kernel_rfl) (show (2 * 3 : Nat) ≠ 0 by decide) (show (2 * 3 : Nat) ≤ 2 ^ 24 by decide) hA ⟨[.int .i64 x72.from_, .int .i64 (k6 : Int), .int .i64 1], _, rfl, ⟨[.int .i64 x72.from_], _, rfl, rfl, ⟨[.int .i64 (k6 : Int)], _, rfl, rfl, rfl⟩⟩, ⟨[.int .i64 x72.to_, .int .i64 (k6 : Int), .int .i64 (-1)], _, rfl, ⟨[.int .i64 x72.to_], _, rfl, rfl, ⟨[.int .i64 (k6 : Int)], _, rfl, rfl, rfl⟩⟩, rfl⟩⟩ rfl rfl ?_
            intro v87 w88 hk90 h89
            have ht93 := Kp.tr (Dw := Dw) hk90 hA hB
            replace hH := Hp.kp (Dw := Dw) hH hk90
            replace h_lists := Sl.tr (Dw := Dw) h_lists ht93
            replace h45 := Sl.tr (Dw := Dw) h45 ht93
            replace h82 := El.tr (Dw := Dw) h82 ht93
            replace h85 := El.tr (Dw := Dw) h85 ht93
            replace h86 := El.tr (Dw := Dw) h86 ht93
            replace hK := Tr.trans (Dw := Dw) hK ht93
            replace hr5 := Tr.trans (Dw := Dw) hr5 ht93
            replace hr31 := Tr.trans (Dw := Dw) hr31 ht93
            replace hr48 := Tr.trans (Dw := Dw) hr48 ht93
            replace hB := Nat.le_trans hB ht93.ex.size
            replace hA := ht93.new
            obtain ⟨x94, hx94, h64⟩ := Option.bind_eq_some_iff.1 h64
            refine V_appendH (Dw := Dw) (e := 50) (v := v59) (l := s57) (ti := Try.t50) (bytes := 24) (lim := 5864062014805) hH (i := 0) rfl h89 hx94 Try.underlying48 Try_info50 rfl rfl rfl rfl (by decide) (by decide) (by decide) hB hA rfl rfl rfl ?_
            intro v95 w96 A97 hH98 ht99
            replace h_lists := Sl.tr (Dw := Dw) h_lists ht99
            replace h45 := Sl.tr (Dw := Dw) h45 ht99
            replace h82 := El.tr (Dw := Dw) h82 ht99
            replace h85 := El.tr (Dw := Dw) h85 ht99
            replace h86 := El.tr (Dw := Dw) h86 ht99
            replace h89 := Sl.tr (Dw := Dw) h89 ht99
            replace hK := Tr.trans (Dw := Dw) hK ht99
            replace hr5 := Tr.trans (Dw := Dw) hr5 ht99
            replace hr31 := Tr.trans (Dw := Dw) hr31 ht99
            replace hr48 := Tr.trans (Dw := Dw) hr48 ht99
            replace hB := Nat.le_trans hB ht99.ex.size
            replace hA := ht99.new
            replace hH : Hp w.heap.size A97 w96 (obS (α := cal_edge) 50 v95 x94 :: []) := hH98
            refine V_y (Y_assign rfl) rfl rfl rfl ?_
            refine V_to (fun _ _ => rfl) ?_
            refine C_region ?_
            refine V_y (Y_addI rfl rfl) rfl rfl rfl ?_
            refine V_y (Y_move rfl) rfl rfl rfl ?_
            obtain rfl := Option.some.inj h64
            refine V_end (fun a ha100 => ?_)
            exact ⟨x94, hlt67, h65, ⟨(v95, A97), ha100.sub ⟨rfl, rfl, rfl, rfl, rfl, rfl, rfl, rfl, rfl, (congrArg (fun z => some (Value.int .i64 z)) (w64_succ hlt67 hn70)), trivial⟩, ⟨hH, hr48⟩⟩⟩
          · refine C_exit (fun a ha101 => ?_)
            exact ⟨(s57, v59, A61), ha101.sub ⟨rfl, rfl, rfl, rfl, rfl, rfl, trivial⟩, ⟨(h68 (eq_of_dec hle66 hc71)).symm, hH, hr48⟩⟩
        rintro ⟨s47, v53, A55⟩ w50 ⟨rfl, hH56, hk51⟩ a ha52
        rw [Lp.andThen_fin] at ho29
        replace h_lists := Sl.tr (Dw := Dw) h_lists hk51
        replace hK := Tr.trans (Dw := Dw) hK hk51
        replace hr5 := Tr.trans (Dw := Dw) hr5 hk51
        replace hr31 := Tr.trans (Dw := Dw) hr31 hk51
        replace hB := Nat.le_trans hB hk51.ex.size
        replace hA := hk51.new
        replace hH : Hp w.heap.size A55 w50 (obS (α := cal_edge) 50 v53 s47 :: []) := hH56
        obtain rfl := Option.some.inj ho29
        exact ⟨(v53, A55), ha52.sub ⟨rfl, rfl, rfl, rfl, rfl, rfl, trivial⟩, ⟨hH, hr31⟩⟩
      rintro ⟨v32, A37⟩ w34 ⟨hH38, hk35⟩ a ha36
      replace h_lists := Sl.tr (Dw := Dw) h_lists hk35
      replace hK := Tr.trans (Dw := Dw) hK hk35
      replace hr5 := Tr.trans (Dw := Dw) hr5 hk35
      replace hB := Nat.le_trans hB hk35.ex.size
      replace hA := hk35.new
      replace hH : Hp w.heap.size A37 w34 (obS (α := cal_edge) 50 v32 s30 :: []) := hH38
      refine C_at (n := ⟨130, [], none⟩) (fun _ _ => rfl) ?_ ha36
      refine C_region ?_
      refine V_y (Y_addI rfl rfl) rfl rfl rfl ?_
      refine V_y (Y_move rfl) rfl rfl rfl ?_
      obtain rfl := Option.some.inj h21
      refine V_end (fun a ha104 => ?_)
      exact ⟨s30, hlt24, h22, ⟨(v32, A37), ha104.sub ⟨rfl, rfl, rfl, rfl, rfl, (congrArg (fun z => some (Value.int .i64 z)) (w64_succ hlt24 hn27)), trivial⟩, ⟨hH, hr5⟩⟩⟩
    · refine C_exit (fun a ha105 => ?_)
      exact ⟨(s14, v16, A18), ha105.sub ⟨rfl, rfl, rfl, trivial⟩, ⟨(h25 (eq_of_dec hle23 hc28)).symm, hH, hr5⟩⟩
  rintro ⟨s4, v10, A12⟩ w7 ⟨rfl, hH13, hk8⟩ a ha9
  rw [Lp.andThen_fin] at hm
  replace h_lists := Sl.tr (Dw := Dw) h_lists hk8
  replace hK := Tr.trans (Dw := Dw) hK hk8
  replace hB := Nat.le_trans hB hk8.ex.size
  replace hA := hk8.new
  replace hH : Hp w.heap.size A12 w7 (obS (α := cal_edge) 50 v10 s4 :: []) := hH13
  refine C_at (n := ⟨130, [], none⟩) (fun _ _ => rfl) ?_ ha9
  refine C_seq ?_
  refine C_region ?_
  refine V_y (Y_move rfl) rfl rfl rfl ?_
  obtain ⟨x107, hx107, hm⟩ := Option.bind_eq_some_iff.1 hm
  refine V_call Try.call27 rfl rfl rfl rfl (Try_sf27 (Dw := Dw) (enc := fun x => [.int .i64 x.at_, .int .i64 x.list_, .int .i64 x.by_]) (fun _ _ _ _ h => by obtain ⟨rfl, _⟩ := Rep_cal_edge h; rfl) (fun _ _ x => ⟨[.int .i64 x.at_], _, rfl, rfl, ⟨[.int .i64 x.list_], _, rfl, rfl, rfl⟩⟩) Try.call28 (fun w1 ht1 hA1 x y => (cal_swept_1_c (Dw := True) w1 hA1 x y (r := (cal_swept_1 x y).getD 0) rfl).mono fun _ _ h => ⟨h.1, h.2⟩) hH (i := 0) rfl hB hA hx107) ?_
  rintro _ w108 ⟨rfl, hH109, ht110⟩
  replace h_lists := Sl.tr (Dw := Dw) h_lists ht110
  replace hK := Tr.trans (Dw := Dw) hK ht110
  replace hB := Nat.le_trans hB ht110.ex.size
  replace hA := ht110.new
  replace hH : Hp w.heap.size A12 w108 (obS (α := cal_edge) 50 v10 x107 :: []) := hH109
  refine V_to (fun _ _ => rfl) ?_
  refine C_seq ?_
  refine C_region ?_
  refine V_y (Y_move rfl) rfl rfl rfl ?_
  refine V_y (Y_lenSl h_lists rfl Try.underlying34 rfl) rfl rfl rfl ?_
  obtain ⟨x111, hx111, hm⟩ := Option.bind_eq_some_iff.1 hm
  refine V_makeH (Dw := Dw) (e := 3) (ti := Try.t3) hH hx111 (fun _ _ => rfl) Try.underlying32 Try_info3 rfl rfl rfl (by decide) (by decide) hB hA rfl rfl rfl ?_
  intro v112 w113 A114 hH115 ht116
  replace h_lists := Sl.tr (Dw := Dw) h_lists ht116
  replace hK := Tr.trans (Dw := Dw) hK ht116
  replace hB := Nat.le_trans hB ht116.ex.size
  replace hA := ht116.new
  replace hH : Hp w.heap.size A114 w113 (obS (α := Int) 3 v112 x111 :: obS (α := cal_edge) 50 v10 x107 :: []) := hH115
  refine V_y (Y_assign rfl) rfl rfl rfl ?_
  refine V_to (fun _ _ => rfl) ?_
  refine C_seq ?_
  refine C_region ?_
  refine V_y (Y_assign rfl) rfl rfl rfl ?_
  refine V_to (fun _ _ => rfl) ?_
  refine C_seq ?_
  refine C_seq ?_
  refine C_region ?_
  refine V_y (Y_assign rfl) rfl rfl rfl ?_
  refine V_to (fun _ _ => rfl) ?_
  replace hH : Hp w.heap.size A114 w113 (obS (α := cal_Span) 30 (.slice none 0 0) ([] : (List cal_Span)) :: obS (α := Int) 3 v112 x111 :: obS (α := cal_edge) 50 v10 x107 :: []) := Hp.addNil (α := cal_Span) (e := 30) hH
  obtain ⟨o117, ho117, hm⟩ := Option.bind_eq_some_iff.1 hm
  refine C_cutG (ι := (((List Int) × (List cal_Span) × Int) × Value × Value × (Nat → Prop))) (fun ⟨s118, v124, v126, A128⟩ => [(11, v126)]) (fun ⟨s118, v124, v126, A128⟩ => fun w' => o117 = .fin s118 ∧ Hp w.heap.size A128 w' (obS (α := cal_Span) 30 v126 s118.2.1 :: obS (α := Int) 3 v124 s118.1 :: obS (α := cal_edge) 50 v10 x107 :: []) ∧ Tr Dw w.heap.size A114 w113 A128 w') ?_ ?_
  · refine C_block ?_
    refine C_while ho117 (fun s130 a w' => ∃ i : (Value × Value × (Nat → Prop)), Has ⟨130, [], none⟩ a ([(1, .func (.func wanted_f) wanted_a wanted_c), (5, v10), (10, i.1), (11, i.2.1), (12, .int .i64 s130.2.2)]) ∧ Hp w.heap.size i.2.2 w' (obS (α := cal_Span) 30 i.2.1 s130.2.1 :: obS (α := Int) 3 i.1 s130.1 :: obS (α := cal_edge) 50 v10 x107 :: []) ∧ Tr Dw w.heap.size A114 w113 i.2.2 w') (fun a ha => ⟨(v112, .slice none 0 0, A114), ha.sub ⟨rfl, rfl, rfl, rfl, rfl, trivial⟩, ⟨hH, Tr.refl (Dw := Dw) hA⟩⟩) ?_
    rintro K s130 a w131 ⟨⟨v132, v134, A136⟩, ha311, hH137, hr119⟩ K144
    refine C_of ?_ ha311
    replace hK := Tr.trans (Dw := Dw) hK hr119
    replace hB := Nat.le_trans hB hr119.ex.size
    replace hA := hr119.new
    replace hH : Hp w.heap.size A136 w131 (obS (α := cal_Span) 30 v134 s130.2.1 :: obS (α := Int) 3 v132 s130.1 :: obS (α := cal_edge) 50 v10 x107 :: []) := hH137
    obtain ⟨x138, h139, h140⟩ := K144
    refine C_seq ?_
    refine C_seq ?_
    refine C_region ?_
    refine V_y (Y_move rfl) rfl rfl rfl ?_
    refine V_y (Y_move rfl) rfl rfl rfl ?_
    refine V_y (Y_lenSl (Hp.any (α := cal_edge) (e := 50) (v := v10) (l := x107) hH (i := 2) rfl) rfl Try.underlying48 rfl) rfl rfl rfl ?_
    refine V_y (Y_lss rfl rfl) rfl rfl rfl ?_
    refine V_to (fun _ _ => rfl) ?_
    refine C_cond rfl (fun hc145 => ?_) (fun hc145 => ?_)
    · rw [if_pos hc145] at h139
      refine C_skip_to (fun _ _ => rfl) ?_
      obtain ⟨s147, ho146, h139⟩ := Option.bind_eq_some_iff.1 h139
      refine C_cutG (ι := (Value × Value × (Nat → Prop))) (fun ⟨v149, v151, A156⟩ => [(1, .func (.func wanted_f) wanted_a wanted_c), (5, v10), (10, v149), (11, v151), (12, .int .i64 s147.2.2)]) (fun ⟨v149, v151, A156⟩ => fun w' => Hp w.heap.size A156 w' (obS (α := cal_Span) 30 v151 s147.2.1 :: obS (α := Int) 3 v149 s147.1 :: obS (α := cal_edge) 50 v10 x107 :: []) ∧ Tr Dw w.heap.size A136 w131 A156 w') ?_ ?_
      · have hr148 : Tr Dw w.heap.size A136 w131 A136 w131 := Tr.refl (Dw := Dw) hA
        refine C_block ?_
        refine C_seq ?_
        refine C_region ?_
        refine V_y (Y_move rfl) rfl rfl rfl ?_
        refine V_y (Y_move rfl) rfl rfl rfl ?_
        obtain ⟨x158, hx158, ho146⟩ := Option.bind_eq_some_iff.1 ho146
        refine V_indexAddrH (α := cal_edge) (e := 50) (v := v10) (l := x107) hH (i := 2) rfl hx158 Try.underlying48 Try.sizeOf50 rfl rfl rfl ?_
        intro b159 o160 h161 hl162
        have h163 := El_cal_edge_0 h161
        refine V_y (Y_fieldAddr Try.underlying50 rfl Try.sizeOf3 (by decide) rfl) rfl rfl rfl ?_
        refine V_y (Y_load (El.int h163) Try.isAgg3 rfl) rfl rfl rfl ?_
        refine V_y (Y_assign rfl) rfl rfl rfl ?_
        refine V_to (fun _ _ => rfl) ?_
        refine C_seq ?_
        obtain ⟨o164, ho164, ho146⟩ := Option.bind_eq_some_iff.1 ho146
        refine C_cutG (ι := (((List Int) × Int) × Value × (Nat → Prop))) (fun ⟨s165, v171, A173⟩ => [(1, .func (.func wanted_f) wanted_a wanted_c), (5, v10), (10, v171), (11, v134), (12, .int .i64 s165.2), (13, .int .i64 x158.at_)]) (fun ⟨s165, v171, A173⟩ => fun w' => o164 = .fin s165 ∧ Hp w.heap.size A173 w' (obS (α := cal_Span) 30 v134 s130.2.1 :: obS (α := Int) 3 v171 s165.1 :: obS (α := cal_edge) 50 v10 x107 :: []) ∧ Tr Dw w.heap.size A136 w131 A173 w') ?_ ?_
        · refine C_block ?_
          refine C_while ho164 (fun s175 a w' => ∃ i : (Value × (Nat → Prop)), Has ⟨130, [], none⟩ a ([(1, .func (.func wanted_f) wanted_a wanted_c), (5, v10), (10, i.1), (11, v134), (12, .int .i64 s175.2), (13, .int .i64 x158.at_)]) ∧ Hp w.heap.size i.2 w' (obS (α := cal_Span) 30 v134 s130.2.1 :: obS (α := Int) 3 i.1 s175.1 :: obS (α := cal_edge) 50 v10 x107 :: []) ∧ Tr Dw w.heap.size A136 w131 i.2 w') (fun a ha => ⟨(v132, A136), ha.sub ⟨rfl, rfl, rfl, rfl, rfl, rfl, trivial⟩, ⟨hH, Tr.refl (Dw := Dw) hA⟩⟩) ?_
          rintro K s175 a w176 ⟨⟨v177, A179⟩, ha226, hH180, hr166⟩ K187
          refine C_of ?_ ha226
          replace hK := Tr.trans (Dw := Dw) hK hr166
          replace hr119 := Tr.trans (Dw := Dw) hr119 hr166
          replace hr148 := Tr.trans (Dw := Dw) hr148 hr166
          replace hB := Nat.le_trans hB hr166.ex.size
          replace hA := hr166.new
          replace hH : Hp w.heap.size A179 w176 (obS (α := cal_Span) 30 v134 s130.2.1 :: obS (α := Int) 3 v177 s175.1 :: obS (α := cal_edge) 50 v10 x107 :: []) := hH180
          obtain ⟨x181, h182, h183⟩ := K187
          refine C_seq ?_
          refine C_seq ?_
          refine C_region ?_
          refine V_y (Y_move rfl) rfl rfl rfl ?_
          refine V_y (Y_move rfl) rfl rfl rfl ?_
          refine V_y (Y_lenSl (Hp.any (α := cal_edge) (e := 50) (v := v10) (l := x107) hH (i := 2) rfl) rfl Try.underlying48 rfl) rfl rfl rfl ?_
          refine V_y (Y_lss rfl rfl) rfl rfl rfl ?_
          refine V_y (Y_move rfl) rfl rfl rfl ?_
          obtain ⟨s189, hs189, h182⟩ := Option.bind_eq_some_iff.1 h182
          refine V_cut 8 (fun _ : Unit => [(1, .func (.func wanted_f) wanted_a wanted_c), (5, v10), (10, v177), (11, v134), (12, .int .i64 s175.2), (13, .int .i64 x158.at_), (68, .bool s189)]) (fun _ w' => w176 = w') ?_ ?_
          · simp only [List.take, List.drop]
            rcases Bool.eq_false_or_eq_true (decide (s175.2 < (x107.length : Int))) with hc188 | hc188
            · rw [if_pos hc188] at hs189
              refine V_ge rfl rfl rfl hc188 ?_
              refine V_y (Y_move rfl) rfl rfl rfl ?_
              refine V_ge rfl rfl rfl hc188 ?_
              refine V_y (Y_move rfl) rfl rfl rfl ?_
              refine V_ge rfl rfl rfl hc188 ?_
              obtain ⟨x190, hx190, hs189⟩ := Option.bind_eq_some_iff.1 hs189
              refine V_indexAddrH (α := cal_edge) (e := 50) (v := v10) (l := x107) hH (i := 2) rfl hx190 Try.underlying48 Try.sizeOf50 rfl rfl rfl ?_
              intro b191 o192 h193 hl194
              refine V_ge rfl rfl rfl hc188 ?_
              have h195 := El_cal_edge_0 h193
              refine V_y (Y_fieldAddr Try.underlying50 rfl Try.sizeOf3 (by decide) rfl) rfl rfl rfl ?_
              refine V_ge rfl rfl rfl hc188 ?_
              refine V_y (Y_load (El.int h195) Try.isAgg3 rfl) rfl rfl rfl ?_
              refine V_ge rfl rfl rfl hc188 ?_
              refine V_y (Y_move rfl) rfl rfl rfl ?_
              refine V_ge rfl rfl rfl hc188 ?_
              refine V_y (Y_eql rfl rfl) rfl rfl rfl ?_
              refine V_y (Y_pick_te rfl hc188 rfl) rfl rfl rfl ?_
              obtain rfl := Option.some.inj hs189
              exact V_end fun a ha => ⟨(), ha.sub ⟨rfl, rfl, rfl, rfl, rfl, rfl, rfl, trivial⟩, rfl⟩
            · rw [if_neg (nt hc188)] at hs189
              refine V_gn rfl rfl rfl hc188 rfl rfl rfl ?_
              refine V_gn rfl rfl rfl hc188 rfl rfl rfl ?_
              refine V_gn rfl rfl rfl hc188 rfl rfl rfl ?_
              refine V_gn rfl rfl rfl hc188 rfl rfl rfl ?_
              refine V_gn rfl rfl rfl hc188 rfl rfl rfl ?_
              refine V_gn rfl rfl rfl hc188 rfl rfl rfl ?_
              refine V_gn rfl rfl rfl hc188 rfl rfl rfl ?_
              refine V_y (Y_pick_fe rfl hc188 rfl) rfl rfl rfl ?_
              obtain rfl := Option.some.inj hs189
              exact V_end fun a ha => ⟨(), ha.sub ⟨rfl, rfl, rfl, rfl, rfl, rfl, rfl, trivial⟩, rfl⟩
          simp only [List.take, List.drop]
          rintro _ _ rfl
          refine V_to (fun _ _ => rfl) ?_
          refine C_cond rfl (fun hc196 => ?_) (fun hc196 => ?_)
          · rw [if_pos hc196] at h182
            refine C_skip_to (fun _ _ => rfl) ?_
            refine C_block ?_
            refine C_seq ?_
            refine C_region_qt (Dw := Dw) 15 Try_mixed (by kernel_rfl) ?_
            simp only [List.take, List.drop]
            refine VQ_y (fun w' hw' => Y_move rfl) rfl rfl rfl ?_
            refine VQ_y (fun w' hw' => Y_move rfl) rfl rfl rfl ?_
            refine VQ_y (fun w' hw' => Y_move rfl) rfl rfl rfl ?_
            obtain ⟨x197, hx197, h182⟩ := Option.bind_eq_some_iff.1 h182
            refine VQ_indexAddrH (α := cal_edge) (e := 50) (v := v10) (l := x107) hH (i := 2) rfl hx197 Try.underlying48 Try.sizeOf50 rfl rfl rfl ?_
            intro b198 o199 h200 hl201
            have h202 := El_cal_edge_1 h200
            refine VQ_y (fun w' hw' => Y_fieldAddr Try.underlying50 rfl Try.sizeOf3 (by decide) rfl) rfl rfl rfl ?_
            refine VQ_y (fun w' hw' => Y_load (El.int (El.kp (Dw := Dw) h202 hw')) Try.isAgg3 rfl) rfl rfl rfl ?_
            obtain ⟨x203, hx203, h182⟩ := Option.bind_eq_some_iff.1 h182
            refine VQ_indexAddrH (α := Int) (e := 3) (v := v177) (l := s175.1) hH (i := 1) rfl hx203 Try.underlying32 Try.sizeOf3 rfl rfl rfl ?_
            intro b204 o205 h206 hl207
            refine VQ_y (fun w' hw' => Y_load (El.int (El.kp (Dw := Dw) h206 hw')) Try.isAgg3 rfl) rfl rfl rfl ?_
            refine VQ_y (fun w' hw' => Y_move rfl) rfl rfl rfl ?_
            refine VQ_y (fun w' hw' => Y_move rfl) rfl rfl rfl ?_
            refine VQ_indexAddrH (α := cal_edge) (e := 50) (v := v10) (l := x107) hH (i := 2) rfl hx197 Try.underlying48 Try.sizeOf50 rfl rfl rfl ?_
            intro b208 o209 h210 hl211
            have h212 := El_cal_edge_2 h210
            refine VQ_y (fun w' hw' => Y_fieldAddr Try.underlying50 rfl Try.sizeOf3 (by decide) rfl) rfl rfl rfl ?_
            refine VQ_y (fun w' hw' => Y_load (El.int (El.kp (Dw := Dw) h212 hw')) Try.isAgg3 rfl) rfl rfl rfl ?_
            refine VQ_y (fun w' hw' => Y_addI rfl rfl) rfl rfl rfl ?_
            refine VQ_indexAddrH (α := Int) (e := 3) (v := v177) (l := s175.1) hH (i := 1) rfl hx203 Try.underlying32 Try.sizeOf3 rfl rfl rfl ?_
            intro b213 o214 h215 hl216
            refine VQ_tail (fun w217 hk218 => ?_)
            try simp only [List.take, List.drop]
            have ht219 := Kp.tr (Dw := Dw) hk218 hA hB
            replace hH := Hp.kp (Dw := Dw) hH hk218
            replace h200 := El.kp (Dw := Dw) h200 hk218
            replace h202 := El.kp (Dw := Dw) h202 hk218
            replace h206 := El.kp (Dw := Dw) h206 hk218
            replace h210 := El.kp (Dw := Dw) h210 hk218
            replace h212 := El.kp (Dw := Dw) h212 hk218
            replace h215 := El.kp (Dw := Dw) h215 hk218
            replace hK := Tr.trans (Dw := Dw) hK ht219
            replace hr119 := Tr.trans (Dw := Dw) hr119 ht219
            replace hr148 := Tr.trans (Dw := Dw) hr148 ht219
            replace hr166 := Tr.trans (Dw := Dw) hr166 ht219
            replace hB := Nat.le_trans hB ht219.ex.size
            replace hA := ht219.new
            obtain ⟨x220, hx220, h182⟩ := Option.bind_eq_some_iff.1 h182
            refine V_storeH (Dw := Dw) (α := Int) (e := 3) (v := v177) (l := s175.1) hH (i := 1) rfl hl216 hx220 rfl Try.sizeOf3 rfl hB hA rfl rfl ?_
            intro w221 hH222 ht223
            replace hK := Tr.trans (Dw := Dw) hK ht223
            replace hr119 := Tr.trans (Dw := Dw) hr119 ht223
            replace hr148 := Tr.trans (Dw := Dw) hr148 ht223
            replace hr166 := Tr.trans (Dw := Dw) hr166 ht223
            replace hB := Nat.le_trans hB ht223.ex.size
            replace hA := ht223.new
            replace hH : Hp w.heap.size A179 w221 (obS (α := cal_Span) 30 v134 s130.2.1 :: obS (α := Int) 3 v177 x220 :: obS (α := cal_edge) 50 v10 x107 :: []) := hH222
            refine V_to (fun _ _ => rfl) ?_
            refine C_region ?_
            refine V_y (Y_move rfl) rfl rfl rfl ?_
            refine V_y (Y_addI rfl rfl) rfl rfl rfl ?_
            refine V_y (Y_assign rfl) rfl rfl rfl ?_
            obtain rfl := Option.some.inj h182
            refine V_end (fun a ha224 => ?_)
            exact ⟨(x220, w64 (s175.2 + 1)), h183, ⟨(v177, A179), ha224.sub ⟨rfl, rfl, rfl, rfl, rfl, rfl, trivial⟩, ⟨hH, hr166⟩⟩⟩
          · rw [if_neg (nt hc196)] at h182
            obtain rfl := Option.some.inj h182
            refine C_exit (fun a ha225 => ?_)
            exact ⟨((s175.1, s175.2), v177, A179), ha225.sub ⟨rfl, rfl, rfl, rfl, rfl, rfl, trivial⟩, ⟨h183.symm, hH, hr166⟩⟩
        rintro ⟨s165, v171, A173⟩ w168 ⟨rfl, hH174, hk169⟩ a ha170
        rw [Lp.andThen_fin] at ho146
        replace hK := Tr.trans (Dw := Dw) hK hk169
        replace hr119 := Tr.trans (Dw := Dw) hr119 hk169
        replace hr148 := Tr.trans (Dw := Dw) hr148 hk169
        replace hB := Nat.le_trans hB hk169.ex.size
        replace hA := hk169.new
        replace hH : Hp w.heap.size A173 w168 (obS (α := cal_Span) 30 v134 s130.2.1 :: obS (α := Int) 3 v171 s165.1 :: obS (α := cal_edge) 50 v10 x107 :: []) := hH174
        refine C_at (n := ⟨130, [], none⟩) (fun _ _ => rfl) ?_ ha170
        refine C_seq ?_
        refine C_seq ?_
        obtain ⟨s228, ho227, ho146⟩ := Option.bind_eq_some_iff.1 ho146
        refine C_cutG (ι := (Nat → Prop)) (fun (A233 : (Nat → Prop)) => [(1, .func (.func wanted_f) wanted_a wanted_c), (5, v10), (10, v171), (11, v134), (12, .int .i64 s165.2), (13, .int .i64 x158.at_), (95, .bool s228)]) (fun (A233 : (Nat → Prop)) => fun w' => Hp w.heap.size A233 w' (obS (α := cal_Span) 30 v134 s130.2.1 :: obS (α := Int) 3 v171 s165.1 :: obS (α := cal_edge) 50 v10 x107 :: []) ∧ Tr Dw w.heap.size A173 w168 A233 w') ?_ ?_
        · have hr229 : Tr Dw w.heap.size A173 w168 A173 w168 := Tr.refl (Dw := Dw) hA
          refine C_region ?_
          refine V_y (Y_move rfl) rfl rfl rfl ?_
          refine V_y (Y_move rfl) rfl rfl rfl ?_
          refine V_y (Y_lenSl (Hp.any (α := cal_edge) (e := 50) (v := v10) (l := x107) hH (i := 2) rfl) rfl Try.underlying48 rfl) rfl rfl rfl ?_
          refine V_y (Y_eql rfl rfl) rfl rfl rfl ?_
          refine V_y (Y_move rfl) rfl rfl rfl ?_
          rcases Bool.eq_false_or_eq_true (s165.2 == (x107.length : Int)) with hc235 | hc235
          · rw [if_pos hc235] at ho227
            refine V_gn rfl rfl rfl hc235 rfl rfl rfl ?_
            refine V_gn rfl rfl rfl hc235 rfl rfl rfl ?_
            refine V_gn rfl rfl rfl hc235 rfl rfl rfl ?_
            refine V_gn rfl rfl rfl hc235 rfl rfl rfl ?_
            refine V_y (Y_pick_te rfl hc235 rfl) rfl rfl rfl ?_
            obtain rfl := Option.some.inj ho227
            refine V_end (fun a ha236 => ?_)
            exact ⟨A173, ha236.sub ⟨rfl, rfl, rfl, rfl, rfl, rfl, rfl, trivial⟩, ⟨hH, hr229⟩⟩
          · rw [if_neg (nt hc235)] at ho227
            refine V_ge rfl rfl rfl hc235 ?_
            refine V_y (Y_move rfl) rfl rfl rfl ?_
            refine V_ge rfl rfl rfl hc235 ?_
            refine V_y (Y_move rfl) rfl rfl rfl ?_
            refine V_ge rfl rfl rfl hc235 ?_
            obtain ⟨x237, hx237, ho227⟩ := Option.bind_eq_some_iff.1 ho227
            refine V_call wanted_call rfl rfl rfl rfl (wanted_spec w168 _ hK hA (fun _ => True) s165.1 v171 (Hp.any (α := Int) (e := 3) (v := v171) (l := s165.1) hH (i := 1) rfl) _ hx237) ?_
            rintro _ w238 ⟨rfl, hk239⟩
            have ht240 := Kp.tr (Dw := Dw) hk239 hA hB
            replace hH := Hp.kp (Dw := Dw) hH hk239
            replace hK := Tr.trans (Dw := Dw) hK ht240
            replace hr119 := Tr.trans (Dw := Dw) hr119 ht240
            replace hr148 := Tr.trans (Dw := Dw) hr148 ht240
            replace hr229 := Tr.trans (Dw := Dw) hr229 ht240
            replace hB := Nat.le_trans hB ht240.ex.size
            replace hA := ht240.new
            refine V_ge rfl rfl rfl hc235 ?_
            refine V_y (Y_not rfl) rfl rfl rfl ?_
            refine V_y (Y_pick_fe rfl hc235 rfl) rfl rfl rfl ?_
            obtain rfl := Option.some.inj ho227
            refine V_end (fun a ha241 => ?_)
            exact ⟨A173, ha241.sub ⟨rfl, rfl, rfl, rfl, rfl, rfl, rfl, trivial⟩, ⟨hH, hr229⟩⟩
        rintro A233 w230 ⟨hH234, hk231⟩ a ha232
        replace hK := Tr.trans (Dw := Dw) hK hk231
        replace hr119 := Tr.trans (Dw := Dw) hr119 hk231
        replace hr148 := Tr.trans (Dw := Dw) hr148 hk231
        replace hB := Nat.le_trans hB hk231.ex.size
        replace hA := hk231.new
        replace hH : Hp w.heap.size A233 w230 (obS (α := cal_Span) 30 v134 s130.2.1 :: obS (α := Int) 3 v171 s165.1 :: obS (α := cal_edge) 50 v10 x107 :: []) := hH234
        refine C_at (n := ⟨130, [], none⟩) (fun _ _ => rfl) ?_ ha232
        refine C_cond rfl (fun hc242 => ?_) (fun hc242 => ?_)
        · rw [if_pos hc242] at ho146
          obtain rfl := Option.some.inj ho146
          refine C_exit (fun a ha243 => ?_)
          exact ⟨(v171, v134, A233), ha243.sub ⟨rfl, rfl, rfl, rfl, rfl, trivial⟩, ⟨hH, hr148⟩⟩
        · rw [if_neg (nt hc242)] at ho146
          refine C_skip_to (fun _ _ => rfl) ?_
          refine C_seq ?_
          refine C_region ?_
          refine V_y (Y_move rfl) rfl rfl rfl ?_
          refine V_y (Y_move rfl) rfl rfl rfl ?_
          refine V_y (Y_move rfl) rfl rfl rfl ?_
          obtain ⟨x244, hx244, ho146⟩ := Option.bind_eq_some_iff.1 ho146
          refine V_indexAddrH (α := cal_edge) (e := 50) (v := v10) (l := x107) hH (i := 2) rfl hx244 Try.underlying48 Try.sizeOf50 rfl rfl rfl ?_
          intro b245 o246 h247 hl248
          have h249 := El_cal_edge_0 h247
          refine V_y (Y_fieldAddr Try.underlying50 rfl Try.sizeOf3 (by decide) rfl) rfl rfl rfl ?_
          refine V_y (Y_load (El.int h249) Try.isAgg3 rfl) rfl rfl rfl ?_
          refine V_y (Y_build Try.underlying30 Try.zeroValue30 (Try_places30 _ Try.underlying30) rfl (by with_unfolding_all rfl)) rfl rfl rfl ?_
          refine V_alloc Try.zeroValue30 rfl ?_
          intro b250 w251 h252
          refine V_storeNew h252 Try.sizeOf30 rfl rfl rfl rfl (by exact (List.forall_mem_cons.2 ⟨rfl, (List.forall_mem_cons.2 ⟨rfl, (fun _ h => nomatch h)⟩)⟩)) ?_
          intro w253 h254
          have hk256 := h254.kp (Dw := Dw)
          have h255 : El (α := cal_Span) A233 w253 b250 0 (⟨x158.at_, x244.at_⟩ : cal_Span) := h254.el hA ⟨[.int .i64 x158.at_], _, rfl, rfl, rfl⟩
          have ht257 := Kp.tr (Dw := Dw) hk256 hA hB
          replace hH := Hp.kp (Dw := Dw) hH hk256
          replace h247 := El.kp (Dw := Dw) h247 hk256
          replace h249 := El.kp (Dw := Dw) h249 hk256
          replace hK := Tr.trans (Dw := Dw) hK ht257
          replace hr119 := Tr.trans (Dw := Dw) hr119 ht257
          replace hr148 := Tr.trans (Dw := Dw) hr148 ht257
          replace hB := Nat.le_trans hB ht257.ex.size
          replace hA := ht257.new
          refine V_to (fun _ _ => rfl) ?_
          refine C_seq ?_
          refine C_region ?_
          refine V_y (Y_move rfl) rfl rfl rfl ?_
          refine V_y (Y_lenSl (Hp.any (α := cal_Span) (e := 30) (v := v134) (l := s130.2.1) hH (i := 0) rfl) rfl Try.underlying22 rfl) rfl rfl rfl ?_
          refine V_y (Y_assign rfl) rfl rfl rfl ?_
          refine V_to (fun _ _ => rfl) ?_
          refine C_seq ?_
          refine C_region_q (Dw := Dw) Try_mixed (by kernel_rfl) ?_
          refine VQ_y (fun w' hw' => Y_move rfl) rfl rfl rfl ?_
          refine VQ_y (fun w' hw' => Y_gtr rfl rfl) rfl rfl rfl ?_
          refine VQ_y (fun w' hw' => Y_move rfl) rfl rfl rfl ?_
          obtain ⟨s259, hs259, ho146⟩ := Option.bind_eq_some_iff.1 ho146
          refine VQ_cut 10 (fun _ : Unit => [(1, .func (.func wanted_f) wanted_a wanted_c), (5, v10), (10, v171), (11, v134), (12, .int .i64 s165.2), (14, .pointer (some ⟨b250, 0, none⟩)), (15, .int .i64 (s130.2.1.length : Int)), (117, .bool s259)]) (fun _ => True) ?_ ?_
          · simp only [List.take, List.drop]
            rcases Bool.eq_false_or_eq_true (decide ((0 : Int) < (s130.2.1.length : Int))) with hc258 | hc258
            · rw [if_pos hc258] at hs259
              refine VQ_ge rfl rfl rfl hc258 ?_
              refine VQ_y (fun w' hw' => Y_move rfl) rfl rfl rfl ?_
              refine VQ_ge rfl rfl rfl hc258 ?_
              refine VQ_y (fun w' hw' => Y_move rfl) rfl rfl rfl ?_
              refine VQ_ge rfl rfl rfl hc258 ?_
              refine VQ_y (fun w' hw' => Y_subI rfl rfl) rfl rfl rfl ?_
              refine VQ_ge rfl rfl rfl hc258 ?_
              obtain ⟨x260, hx260, hs259⟩ := Option.bind_eq_some_iff.1 hs259
              refine VQ_indexAddrH (α := cal_Span) (e := 30) (v := v134) (l := s130.2.1) hH (i := 0) rfl hx260 Try.underlying22 Try.sizeOf30 rfl rfl rfl ?_
              intro b261 o262 h263 hl264
              refine VQ_ge rfl rfl rfl hc258 ?_
              have h265 := El_cal_Span_1 h263
              refine VQ_y (fun w' hw' => Y_fieldAddr Try.underlying30 rfl Try.sizeOf3 (by decide) rfl) rfl rfl rfl ?_
              refine VQ_ge rfl rfl rfl hc258 ?_
              refine VQ_y (fun w' hw' => Y_load (El.int (El.kp (Dw := Dw) h265 hw')) Try.isAgg3 rfl) rfl rfl rfl ?_
              refine VQ_ge rfl rfl rfl hc258 ?_
              have h266 := El_cal_Span_0 h255
              refine VQ_y (fun w' hw' => Y_fieldAddr Try.underlying30 rfl Try.sizeOf3 (by decide) rfl) rfl rfl rfl ?_
              refine VQ_ge rfl rfl rfl hc258 ?_
              refine VQ_y (fun w' hw' => Y_load (El.int (El.kp (Dw := Dw) h266 hw')) Try.isAgg3 rfl) rfl rfl rfl ?_
              refine VQ_ge rfl rfl rfl hc258 ?_
              refine VQ_y (fun w' hw' => Y_eql rfl rfl) rfl rfl rfl ?_
              refine VQ_y (fun _ _ => Y_pick_te rfl hc258 rfl) rfl rfl rfl ?_
              obtain rfl := Option.some.inj hs259
              exact VQ_end fun a ha => ⟨(), ha.sub ⟨rfl, rfl, rfl, rfl, rfl, rfl, rfl, rfl, trivial⟩, trivial⟩
            · rw [if_neg (nt hc258)] at hs259
              refine VQ_gn rfl rfl rfl hc258 rfl rfl rfl ?_
              refine VQ_gn rfl rfl rfl hc258 rfl rfl rfl ?_
              refine VQ_gn rfl rfl rfl hc258 rfl rfl rfl ?_
              refine VQ_gn rfl rfl rfl hc258 rfl rfl rfl ?_
              refine VQ_gn rfl rfl rfl hc258 rfl rfl rfl ?_
              refine VQ_gn rfl rfl rfl hc258 rfl rfl rfl ?_
              refine VQ_gn rfl rfl rfl hc258 rfl rfl rfl ?_
              refine VQ_gn rfl rfl rfl hc258 rfl rfl rfl ?_
              refine VQ_gn rfl rfl rfl hc258 rfl rfl rfl ?_
              refine VQ_y (fun _ _ => Y_pick_fe rfl hc258 rfl) rfl rfl rfl ?_
              obtain rfl := Option.some.inj hs259
              exact VQ_end fun a ha => ⟨(), ha.sub ⟨rfl, rfl, rfl, rfl, rfl, rfl, rfl, rfl, trivial⟩, trivial⟩
          simp only [List.take, List.drop]
          rintro _ _
          refine VQ_to (fun _ _ => rfl) (fun w267 hk268 => ?_)
          have ht269 := Kp.tr (Dw := Dw) hk268 hA hB
          replace hH := Hp.kp (Dw := Dw) hH hk268
          replace h255 := El.tr (Dw := Dw) h255 ht269
          replace hK := Tr.trans (Dw := Dw) hK ht269
          replace hr119 := Tr.trans (Dw := Dw) hr119 ht269
          replace hr148 := Tr.trans (Dw := Dw) hr148 ht269
          replace hB := Nat.le_trans hB ht269.ex.size
          replace hA := ht269.new
          obtain ⟨s271, ho270, ho146⟩ := Option.bind_eq_some_iff.1 ho146
          refine C_cutG (ι := (Value × (Nat → Prop))) (fun ⟨v273, A278⟩ => [(1, .func (.func wanted_f) wanted_a wanted_c), (5, v10), (10, v171), (11, v273), (12, .int .i64 s165.2)]) (fun ⟨v273, A278⟩ => fun w' => Hp w.heap.size A278 w' (obS (α := cal_Span) 30 v273 s271 :: obS (α := Int) 3 v171 s165.1 :: obS (α := cal_edge) 50 v10 x107 :: []) ∧ Tr Dw w.heap.size A233 w267 A278 w') ?_ ?_
          · have hr272 : Tr Dw w.heap.size A233 w267 A233 w267 := Tr.refl (Dw := Dw) hA
            refine C_cond rfl (fun hc280 => ?_) (fun hc280 => ?_)
            · rw [if_pos hc280] at ho270
              refine C_region ?_
              refine V_y (Y_move rfl) rfl rfl rfl ?_
              refine V_y (Y_move rfl) rfl rfl rfl ?_
              refine V_y (Y_subI rfl rfl) rfl rfl rfl ?_
              have h281 := El_cal_Span_1 h255
              refine V_y (Y_fieldAddr Try.underlying30 rfl Try.sizeOf3 (by decide) rfl) rfl rfl rfl ?_
              refine V_y (Y_load (El.int h281) Try.isAgg3 rfl) rfl rfl rfl ?_
              obtain ⟨x282, hx282, ho270⟩ := Option.bind_eq_some_iff.1 ho270
              refine V_indexAddrH (α := cal_Span) (e := 30) (v := v134) (l := s130.2.1) hH (i := 0) rfl hx282 Try.underlying22 Try.sizeOf30 rfl rfl rfl ?_
              intro b283 o284 h285 hl286
              have h287 := El_cal_Span_1 h285
              refine V_y (Y_fieldAddr Try.underlying30 rfl Try.sizeOf3 (by decide) rfl) rfl rfl rfl ?_
              obtain ⟨x288, hx288, ho270⟩ := Option.bind_eq_some_iff.1 ho270
              refine V_storeFH (Dw := Dw) (α := cal_Span) (e := 30) (v := v134) (l := s130.2.1) (foff := 1) hH (i := 0) rfl hl286 hx282 hx288 (fun _ h => by obtain ⟨_, _, rfl, rfl, rfl⟩ := h; exact ⟨[_], _, rfl, rfl, rfl⟩) Try.sizeOf3 rfl (by simp [Value.cells, Value.oneCell']) (by decide) hB hA (congrArg (fun z => some (Value.pointer (some ⟨_, z, none⟩))) (by simp [Nat.add_assoc])) rfl ?_
              intro w289 hH290 ht291
              replace h255 := El.tr (Dw := Dw) h255 ht291
              replace h281 := El.tr (Dw := Dw) h281 ht291
              replace hK := Tr.trans (Dw := Dw) hK ht291
              replace hr119 := Tr.trans (Dw := Dw) hr119 ht291
              replace hr148 := Tr.trans (Dw := Dw) hr148 ht291
              replace hr272 := Tr.trans (Dw := Dw) hr272 ht291
              replace hB := Nat.le_trans hB ht291.ex.size
              replace hA := ht291.new
              replace hH : Hp w.heap.size A233 w289 (obS (α := cal_Span) 30 v134 x288 :: obS (α := Int) 3 v171 s165.1 :: obS (α := cal_edge) 50 v10 x107 :: []) := hH290
              obtain rfl := Option.some.inj ho270
              refine V_end (fun a ha292 => ?_)
              exact ⟨(v134, A233), ha292.sub ⟨rfl, rfl, rfl, rfl, rfl, trivial⟩, ⟨hH, hr272⟩⟩
            · rw [if_neg (nt hc280)] at ho270
              refine C_region ?_
              refine V_y (Y_move rfl) rfl rfl rfl ?_
              obtain ⟨h293, _⟩ := El_cal_Span h255
              refine V_y (Y_loadA h293 Try.isAgg30 Try.sizeOf30 rfl) rfl rfl rfl ?_
              refine V_buildSlice (Dw := Dw) (cells := #[.int .i64 ((⟨x158.at_, x244.at_⟩ : cal_Span).from_), .int .i64 ((⟨x158.at_, x244.at_⟩ : cal_Span).to_)]) (l := ([(⟨x158.at_, x244.at_⟩ : cal_Span)] : List cal_Span)) (len := 1) Try.underlying22 Try.sizeOf30 Try.zeroValue30 rfl (by generalize ((⟨x158.at_, x244.at_⟩ : cal_Span).from_ : Int) = z298; generalize ((⟨x158.at_, x244.at_⟩ : cal_Span).to_ : Int) = z299; kernel_rfl) (show (1 * 2 : Nat) ≠ 0 by decide) (show (1 * 2 : Nat) ≤ 2 ^ 24 by decide) hA ⟨[.int .i64 ((⟨x158.at_, x244.at_⟩ : cal_Span).from_), .int .i64 ((⟨x158.at_, x244.at_⟩ : cal_Span).to_)], _, rfl, ⟨[.int .i64 ((⟨x158.at_, x244.at_⟩ : cal_Span).from_)], _, rfl, rfl, rfl⟩, rfl⟩ rfl rfl ?_
              intro v294 w295 hk297 h296
              have ht300 := Kp.tr (Dw := Dw) hk297 hA hB
              replace hH := Hp.kp (Dw := Dw) hH hk297
              replace h255 := El.tr (Dw := Dw) h255 ht300
              replace hK := Tr.trans (Dw := Dw) hK ht300
              replace hr119 := Tr.trans (Dw := Dw) hr119 ht300
              replace hr148 := Tr.trans (Dw := Dw) hr148 ht300
              replace hr272 := Tr.trans (Dw := Dw) hr272 ht300
              replace hB := Nat.le_trans hB ht300.ex.size
              replace hA := ht300.new
              obtain ⟨x301, hx301, ho270⟩ := Option.bind_eq_some_iff.1 ho270
              refine V_appendH (Dw := Dw) (e := 30) (v := v134) (l := s130.2.1) (ti := Try.t30) (bytes := 16) (lim := 8796093022208) hH (i := 0) rfl h296 hx301 Try.underlying22 Try_info30 rfl rfl rfl rfl (by decide) (by decide) (by decide) hB hA rfl rfl rfl ?_
              intro v302 w303 A304 hH305 ht306
              replace h255 := El.tr (Dw := Dw) h255 ht306
              replace h296 := Sl.tr (Dw := Dw) h296 ht306
              replace hK := Tr.trans (Dw := Dw) hK ht306
              replace hr119 := Tr.trans (Dw := Dw) hr119 ht306
              replace hr148 := Tr.trans (Dw := Dw) hr148 ht306
              replace hr272 := Tr.trans (Dw := Dw) hr272 ht306
              replace hB := Nat.le_trans hB ht306.ex.size
              replace hA := ht306.new
              replace hH : Hp w.heap.size A304 w303 (obS (α := cal_Span) 30 v302 x301 :: obS (α := Int) 3 v171 s165.1 :: obS (α := cal_edge) 50 v10 x107 :: []) := hH305
              refine V_y (Y_assign rfl) rfl rfl rfl ?_
              obtain rfl := Option.some.inj ho270
              refine V_end (fun a ha307 => ?_)
              exact ⟨(v302, A304), ha307.sub ⟨rfl, rfl, rfl, rfl, rfl, trivial⟩, ⟨hH, hr272⟩⟩
          rintro ⟨v273, A278⟩ w275 ⟨hH279, hk276⟩ a ha277
          replace hK := Tr.trans (Dw := Dw) hK hk276
          replace hr119 := Tr.trans (Dw := Dw) hr119 hk276
          replace hr148 := Tr.trans (Dw := Dw) hr148 hk276
          replace hB := Nat.le_trans hB hk276.ex.size
          replace hA := hk276.new
          replace hH : Hp w.heap.size A278 w275 (obS (α := cal_Span) 30 v273 s271 :: obS (α := Int) 3 v171 s165.1 :: obS (α := cal_edge) 50 v10 x107 :: []) := hH279
          obtain rfl := Option.some.inj ho146
          exact ⟨(v171, v273, A278), ha277.sub ⟨rfl, rfl, rfl, rfl, rfl, trivial⟩, ⟨hH, hr148⟩⟩
      rintro ⟨v149, v151, A156⟩ w153 ⟨hH157, hk154⟩ a ha155
      replace hK := Tr.trans (Dw := Dw) hK hk154
      replace hr119 := Tr.trans (Dw := Dw) hr119 hk154
      replace hB := Nat.le_trans hB hk154.ex.size
      replace hA := hk154.new
      replace hH : Hp w.heap.size A156 w153 (obS (α := cal_Span) 30 v151 s147.2.1 :: obS (α := Int) 3 v149 s147.1 :: obS (α := cal_edge) 50 v10 x107 :: []) := hH157
      obtain rfl := Option.some.inj h139
      exact ⟨(s147.1, s147.2.1, s147.2.2), h140, ⟨(v149, v151, A156), ha155.sub ⟨rfl, rfl, rfl, rfl, rfl, trivial⟩, ⟨hH, hr119⟩⟩⟩
    · rw [if_neg (nt hc145)] at h139
      obtain rfl := Option.some.inj h139
      refine C_exit (fun a ha310 => ?_)
      exact ⟨((s130.1, s130.2.1, s130.2.2), v132, v134, A136), ha310.sub ⟨rfl, trivial⟩, ⟨h140.symm, hH, hr119⟩⟩
  rintro ⟨s118, v124, v126, A128⟩ w121 ⟨rfl, hH129, hk122⟩ a ha123
  rw [Lp.andThen_fin] at hm
  replace hK := Tr.trans (Dw := Dw) hK hk122
  replace hB := Nat.le_trans hB hk122.ex.size
  replace hA := hk122.new
  replace hH : Hp w.heap.size A128 w121 (obS (α := cal_Span) 30 v126 s118.2.1 :: obS (α := Int) 3 v124 s118.1 :: obS (α := cal_edge) 50 v10 x107 :: []) := hH129
  refine C_at (n := ⟨130, [], none⟩) (fun _ _ => rfl) ?_ ha123
  refine C_seq ?_
  refine C_region ?_
  refine V_y (Y_move rfl) rfl rfl rfl ?_
  refine V_y (Y_assign rfl) rfl rfl rfl ?_
  refine V_to (fun _ _ => rfl) ?_
  obtain rfl := Option.some.inj hm
  refine C_ret ?_
  try simp only [↓inBlock_ret, ↓then_ret]
  exact retQ rfl (Res.one Try.results20 rfl) ⟨v126, rfl, (Hp.ownd hH (i := 0) rfl), hK.kp⟩

set_option maxRecDepth 4000 in
set_option maxHeartbeats 4000000 in
theorem cal_limited_c (w : World) {A : Nat → Prop} (l : (List cal_Span)) (v_l : Value) (h_l : Sl A w v_l l) : Ret Try.prog 19 #[v_l] w fun v w' => ∃ s0, v = .tuple #[s0, .int .i64 (cal_limited l).2] ∧ Sl A w' s0 (cal_limited l).1 ∧ w = w' := by
  generalize hm : cal_limited l = r
  unfold cal_limited at hm
  refine enter Try.func19 rfl Try.ntmps19 rfl ?_
  refine C_seq ?_
  refine C_region ?_
  refine V_y (Y_assign rfl) rfl rfl rfl ?_
  refine V_y (Y_assign rfl) rfl rfl rfl ?_
  refine V_to (fun _ _ => rfl) ?_
  refine C_seq ?_
  refine C_seq ?_
  refine C_region ?_
  refine V_y (Y_move rfl) rfl rfl rfl ?_
  refine V_y (Y_lenSl h_l rfl Try.underlying22 rfl) rfl rfl rfl ?_
  refine V_y (Y_gtr rfl rfl) rfl rfl rfl ?_
  refine V_to (fun _ _ => rfl) ?_
  refine C_cond rfl (fun hc3 => ?_) (fun hc3 => ?_)
  · rw [if_pos hc3] at hm
    refine C_seq ?_
    refine C_region ?_
    refine V_y (Y_assign rfl) rfl rfl rfl ?_
    refine V_y (Y_assign rfl) rfl rfl rfl ?_
    refine V_to (fun _ _ => rfl) ?_
    obtain rfl := hm
    refine C_ret ?_
    try simp only [↓inBlock_ret, ↓then_ret]
    exact retQ rfl (Res.two Try.results19 rfl rfl) ⟨.slice none 0 0, rfl, Sl.nil, rfl⟩
  · rw [if_neg (nt hc3)] at hm
    refine C_skip_to (fun _ _ => rfl) ?_
    refine C_seq ?_
    refine C_region ?_
    refine V_y (Y_move rfl) rfl rfl rfl ?_
    refine V_y (Y_assign rfl) rfl rfl rfl ?_
    refine V_y (Y_assign rfl) rfl rfl rfl ?_
    refine V_to (fun _ _ => rfl) ?_
    obtain rfl := hm
    refine C_ret ?_
    try simp only [↓inBlock_ret, ↓then_ret]
    exact retQ rfl (Res.two Try.results19 rfl rfl) ⟨v_l, rfl, h_l, rfl⟩

set_option maxRecDepth 4000 in
set_option maxHeartbeats 4000000 in
theorem cal_combined_c (w : World) {A : Nat → Prop} (hA : ∀ b, w.heap.size ≤ b → A b) (a_ : (List cal_Span)) (v_a_ : Value) (h_a_ : Sl A w v_a_ a_) (b : (List cal_Span)) (v_b : Value) (h_b : Sl A w v_b b) (wanted : (List Int) → Option Bool) (wanted_f : FuncId) (wanted_a wanted_c : Array Value) (wanted_call : ∀ (args : Array Value) (w : World), (callFunc wanted_f args).run Try.prog w = .ok (.enter wanted_f args) w) (wanted_spec : ∀ (w1 : World) (A1 : Nat → Prop), Tr Dw w.heap.size A w A1 w1 → (∀ b, w1.heap.size ≤ b → A1 b) → ∀ (A2 : Nat → Prop) (y0 : (List Int)) (v1 : Value) (h2 : Sl A2 w1 v1 y0) (r : Bool), wanted y0 = some r → Ret Try.prog wanted_f (wanted_a ++ #[v1] ++ wanted_c) w1 fun v w' => v = .bool r ∧ Kp Dw w1 w') {r : ((List cal_Span) × Int)} (hm : cal_combined a_ b wanted = some r) : Ret Try.prog 9 #[v_a_, v_b, .func (.func wanted_f) wanted_a wanted_c] w fun v w' => ∃ s0, v = .tuple #[s0, .int .i64 r.2] ∧ Sl A w' s0 r.1 ∧ Kp Dw w w' := by
  unfold cal_combined at hm
  refine enter Try.func9 rfl Try.ntmps9 rfl ?_
  have hA0 := hA
  have hB := Nat.le_refl w.heap.size
  have hK : Tr Dw w.heap.size A w A w := Tr.refl (Dw := Dw) hA
  have hH : Hp w.heap.size A w [] := Hp.nil
  refine C_seq ?_
  refine C_region ?_
  refine V_y (Y_assign rfl) rfl rfl rfl ?_
  refine V_y (Y_assign rfl) rfl rfl rfl ?_
  refine V_to (fun _ _ => rfl) ?_
  refine C_seq ?_
  refine C_seq ?_
  refine C_region ?_
  refine V_y (Y_move rfl) rfl rfl rfl ?_
  obtain ⟨x5, hx5, hm⟩ := Option.bind_eq_some_iff.1 hm
  refine V_call Try.call18 rfl rfl rfl rfl (cal_CheckSpans_c (Dw := Dw) w hA a_ v_a_ h_a_ hx5) ?_
  rintro _ w6 ⟨rfl, hk7⟩
  have ht8 := Kp.tr (Dw := Dw) hk7 hA hB
  replace hH := Hp.kp (Dw := Dw) hH hk7
  replace h_a_ := Sl.tr (Dw := Dw) h_a_ ht8
  replace h_b := Sl.tr (Dw := Dw) h_b ht8
  replace hK := Tr.trans (Dw := Dw) hK ht8
  replace hB := Nat.le_trans hB ht8.ex.size
  replace hA := ht8.new
  refine V_y (Y_move rfl) rfl rfl rfl ?_
  obtain ⟨x9, hx9, hm⟩ := Option.bind_eq_some_iff.1 hm
  refine V_call Try.call18 rfl rfl rfl rfl (cal_CheckSpans_c (Dw := Dw) w6 hA b v_b h_b hx9) ?_
  rintro _ w10 ⟨rfl, hk11⟩
  have ht12 := Kp.tr (Dw := Dw) hk11 hA hB
  replace hH := Hp.kp (Dw := Dw) hH hk11
  replace h_a_ := Sl.tr (Dw := Dw) h_a_ ht12
  replace h_b := Sl.tr (Dw := Dw) h_b ht12
  replace hK := Tr.trans (Dw := Dw) hK ht12
  replace hB := Nat.le_trans hB ht12.ex.size
  replace hA := ht12.new
  refine V_buildSlice (Dw := Dw) (l := ([x5, x9] : List Int)) (len := 2) Try.underlying47 Try.sizeOf25 Try.zeroValue25 rfl (by with_unfolding_all rfl) (show (2 * 1 : Nat) ≠ 0 by decide) (show (2 * 1 : Nat) ≤ 2 ^ 24 by decide) hA ⟨[.int .i64 x5], _, rfl, rfl, ⟨[.int .i64 x9], _, rfl, rfl, rfl⟩⟩ rfl rfl ?_
  intro v13 w14 hk16 h15
  have ht17 := Kp.tr (Dw := Dw) hk16 hA hB
  replace hH := Hp.kp (Dw := Dw) hH hk16
  replace h_a_ := Sl.tr (Dw := Dw) h_a_ ht17
  replace h_b := Sl.tr (Dw := Dw) h_b ht17
  replace hK := Tr.trans (Dw := Dw) hK ht17
  replace hB := Nat.le_trans hB ht17.ex.size
  replace hA := ht17.new
  obtain ⟨x18, hx18, hm⟩ := Option.bind_eq_some_iff.1 hm
  refine V_call Try.call17 rfl rfl rfl rfl (cmp_Or_api_Errno_c w14 ([x5, x9] : List Int) v13 h15 hx18) ?_
  rintro _ _ ⟨rfl, rfl⟩
  refine V_y (Y_assign rfl) rfl rfl rfl ?_
  refine V_to (fun _ _ => rfl) ?_
  refine C_seq ?_
  refine C_region ?_
  refine V_y (Y_move rfl) rfl rfl rfl ?_
  refine V_y (Y_neq rfl rfl) rfl rfl rfl ?_
  refine V_to (fun _ _ => rfl) ?_
  refine C_cond rfl (fun hc19 => ?_) (fun hc19 => ?_)
  · rw [if_pos hc19] at hm
    refine C_seq ?_
    refine C_region ?_
    refine V_y (Y_move rfl) rfl rfl rfl ?_
    refine V_y (Y_assign rfl) rfl rfl rfl ?_
    refine V_y (Y_assign rfl) rfl rfl rfl ?_
    refine V_to (fun _ _ => rfl) ?_
    obtain rfl := Option.some.inj hm
    refine C_ret ?_
    try simp only [↓inBlock_ret, ↓then_ret]
    exact retQ rfl (Res.two Try.results9 rfl rfl) ⟨.slice none 0 0, rfl, Sl.nil, hK.kp⟩
  · rw [if_neg (nt hc19)] at hm
    refine C_skip_to (fun _ _ => rfl) ?_
    refine C_seq ?_
    refine C_region ?_
    refine V_y (Y_move rfl) rfl rfl rfl ?_
    refine V_y (Y_move rfl) rfl rfl rfl ?_
    refine V_buildSlice (Dw := Dw) (cells := #[v_a_, v_b]) (l := ([a_, b] : List (List cal_Span))) (len := 2) Try.underlying34 Try.sizeOf22 Try.zeroValue22 rfl (by obtain ⟨a24, c25, e26, _⟩ := Sl.form h_a_; subst e26; obtain ⟨a27, c28, e29, _⟩ := Sl.form h_b; subst e29; kernel_rfl) (show (2 * 1 : Nat) ≠ 0 by decide) (show (2 * 1 : Nat) ≤ 2 ^ 24 by decide) hA ⟨[v_a_], _, rfl, ⟨_, rfl, h_a_⟩, ⟨[v_b], _, rfl, ⟨_, rfl, h_b⟩, rfl⟩⟩ rfl rfl ?_
    intro v20 w21 hk23 h22
    have ht30 := Kp.tr (Dw := Dw) hk23 hA hB
    replace hH := Hp.kp (Dw := Dw) hH hk23
    replace h_a_ := Sl.tr (Dw := Dw) h_a_ ht30
    replace h_b := Sl.tr (Dw := Dw) h_b ht30
    replace hK := Tr.trans (Dw := Dw) hK ht30
    replace hB := Nat.le_trans hB ht30.ex.size
    replace hA := ht30.new
    refine V_y (Y_move rfl) rfl rfl rfl ?_
    obtain ⟨x31, hx31, hm⟩ := Option.bind_eq_some_iff.1 hm
    refine V_call Try.call20 rfl rfl rfl rfl (cal_swept_c (Dw := Dw) w21 hA ([a_, b] : List (List cal_Span)) v20 h22 wanted wanted_f wanted_a wanted_c wanted_call (fun w1 A1 ht => wanted_spec w1 A1 (Tr.trans (Dw := Dw) hK (Tr.lower (Dw := Dw) ht hB))) hx31) ?_
    rintro v32 w34 ⟨_, rfl, h33, hk35⟩
    obtain ⟨A36, ht37, hH38⟩ := Hp.addOwnd (Dw := Dw) hH hB hA hk35 h33
    replace h_a_ := Sl.tr (Dw := Dw) h_a_ ht37
    replace h_b := Sl.tr (Dw := Dw) h_b ht37
    replace h22 := Sl.tr (Dw := Dw) h22 ht37
    replace hK := Tr.trans (Dw := Dw) hK ht37
    replace hB := Nat.le_trans hB ht37.ex.size
    replace hA := ht37.new
    replace hH : Hp w.heap.size A36 w34 (obS (α := cal_Span) 30 v32 x31 :: []) := hH38
    obtain ⟨A39, ht40, h41, hH42⟩ := Hp.freeze (Dw := Dw) (α := cal_Span) (v := v32) (l := x31) hH (i := 0) rfl hA
    replace h_a_ := Sl.tr (Dw := Dw) h_a_ ht40
    replace h_b := Sl.tr (Dw := Dw) h_b ht40
    replace h22 := Sl.tr (Dw := Dw) h22 ht40
    replace hK := Tr.trans (Dw := Dw) hK ht40
    replace hB := Nat.le_trans hB ht40.ex.size
    replace hA := ht40.new
    replace hH : Hp w.heap.size A39 w34 ([]) := hH42
    refine V_call Try.call19 rfl rfl rfl rfl (cal_limited_c w34 x31 v32 h41) ?_
    rintro _ _ ⟨v44, rfl, h45, rfl⟩
    refine V_y (Y_extract rfl rfl) rfl rfl rfl ?_
    refine V_y (Y_extract rfl rfl) rfl rfl rfl ?_
    refine V_y (Y_assign rfl) rfl rfl rfl ?_
    refine V_y (Y_assign rfl) rfl rfl rfl ?_
    refine V_to (fun _ _ => rfl) ?_
    obtain rfl := Option.some.inj hm
    refine C_ret ?_
    try simp only [↓inBlock_ret, ↓then_ret]
    exact retQ rfl (Res.two Try.results9 rfl rfl) ⟨v44, rfl, (Sl.out (Dw := Dw) h45 hA0 hK), hK.kp⟩

set_option maxRecDepth 4000 in
set_option maxHeartbeats 4000000 in
theorem cal_Union_1_c (w : World) {A : Nat → Prop} (hA : ∀ b, w.heap.size ≤ b → A b) (n : (List Int)) (v_n : Value) (h_n : Sl A w v_n n) {r : Bool} (hm : cal_Union_1 n = some r) : Ret Try.prog 10 #[v_n] w fun v w' => v = .bool r ∧ Kp Dw w w' := by
  unfold cal_Union_1 at hm
  refine enter Try.func10 rfl Try.ntmps10 rfl ?_
  have hA0 := hA
  have hB := Nat.le_refl w.heap.size
  have hK : Tr Dw w.heap.size A w A w := Tr.refl (Dw := Dw) hA
  have hH : Hp w.heap.size A w [] := Hp.nil
  refine C_seq ?_
  refine C_region ?_
  refine V_y (Y_assign rfl) rfl rfl rfl ?_
  refine V_to (fun _ _ => rfl) ?_
  refine C_seq ?_
  refine C_region_q (Dw := Dw) Try_mixed (by kernel_rfl) ?_
  refine VQ_y (fun w' hw' => Y_move rfl) rfl rfl rfl ?_
  obtain ⟨x3, hx3, hm⟩ := Option.bind_eq_some_iff.1 hm
  refine VQ_indexAddr h_n hx3 Try.underlying32 Try.sizeOf3 rfl rfl rfl ?_
  intro b4 o5 h6
  refine VQ_y (fun w' hw' => Y_load (El.int (El.kp (Dw := Dw) h6 hw')) Try.isAgg3 rfl) rfl rfl rfl ?_
  refine VQ_y (fun w' hw' => Y_move rfl) rfl rfl rfl ?_
  obtain ⟨x7, hx7, hm⟩ := Option.bind_eq_some_iff.1 hm
  refine VQ_indexAddr h_n hx7 Try.underlying32 Try.sizeOf3 rfl rfl rfl ?_
  intro b8 o9 h10
  refine VQ_y (fun w' hw' => Y_load (El.int (El.kp (Dw := Dw) h10 hw')) Try.isAgg3 rfl) rfl rfl rfl ?_
  refine VQ_y (fun w' hw' => Y_addI rfl rfl) rfl rfl rfl ?_
  refine VQ_y (fun w' hw' => Y_gtr rfl rfl) rfl rfl rfl ?_
  refine VQ_y (fun w' hw' => Y_assign rfl) rfl rfl rfl ?_
  refine VQ_to (fun _ _ => rfl) (fun w11 hk12 => ?_)
  have ht13 := Kp.tr (Dw := Dw) hk12 hA hB
  replace hH := Hp.kp (Dw := Dw) hH hk12
  replace hK := Tr.trans (Dw := Dw) hK ht13
  replace hB := Nat.le_trans hB ht13.ex.size
  replace hA := ht13.new
  obtain rfl := Option.some.inj hm
  refine C_ret ?_
  try simp only [↓inBlock_ret, ↓then_ret]
  exact retQ rfl (Res.one Try.results10 rfl) ⟨rfl, hK.kp⟩

set_option maxRecDepth 4000 in
set_option maxHeartbeats 4000000 in
theorem cal_Union_c (w : World) {A : Nat → Prop} (hA : ∀ b, w.heap.size ≤ b → A b) (a_ : (List cal_Span)) (v_a_ : Value) (h_a_ : Sl A w v_a_ a_) (b : (List cal_Span)) (v_b : Value) (h_b : Sl A w v_b b) {r : ((List cal_Span) × Int)} (hm : cal_Union a_ b = some r) : Ret Try.prog 4 #[v_a_, v_b] w fun v w' => ∃ s0, v = .tuple #[s0, .int .i64 r.2] ∧ Sl A w' s0 r.1 ∧ Kp Dw w w' := by
  unfold cal_Union at hm
  refine enter Try.func4 rfl Try.ntmps4 rfl ?_
  have hA0 := hA
  have hB := Nat.le_refl w.heap.size
  have hK : Tr Dw w.heap.size A w A w := Tr.refl (Dw := Dw) hA
  have hH : Hp w.heap.size A w [] := Hp.nil
  refine C_seq ?_
  refine C_region ?_
  refine V_y (Y_assign rfl) rfl rfl rfl ?_
  refine V_y (Y_assign rfl) rfl rfl rfl ?_
  refine V_to (fun _ _ => rfl) ?_
  refine C_seq ?_
  refine C_region ?_
  refine V_y (Y_move rfl) rfl rfl rfl ?_
  refine V_y (Y_move rfl) rfl rfl rfl ?_
  obtain ⟨x6, hx6, hm⟩ := Option.bind_eq_some_iff.1 hm
  refine V_call Try.call9 rfl rfl rfl rfl (cal_combined_c (Dw := Dw) w hA a_ v_a_ h_a_ b v_b h_b (fun y19 => cal_Union_1 y19) 10 #[] #[] Try.call10 (fun w14 A15 ht16 h17 A18 y9 v10 h11 r12 h13 => (cal_Union_1_c (Dw := Dw) (A := fun _ => True) w14 (fun _ _ => trivial) y9 v10 (Sl.any h11)  h13).mono (fun _ _ h => ⟨h.1, h.2⟩)) hx6) ?_
  rintro _ w20 ⟨v7, rfl, h8, hk21⟩
  have ht22 := Kp.tr (Dw := Dw) hk21 hA hB
  replace hH := Hp.kp (Dw := Dw) hH hk21
  replace h_a_ := Sl.tr (Dw := Dw) h_a_ ht22
  replace h_b := Sl.tr (Dw := Dw) h_b ht22
  replace hK := Tr.trans (Dw := Dw) hK ht22
  replace hB := Nat.le_trans hB ht22.ex.size
  replace hA := ht22.new
  refine V_y (Y_extract rfl rfl) rfl rfl rfl ?_
  refine V_y (Y_extract rfl rfl) rfl rfl rfl ?_
  refine V_y (Y_assign rfl) rfl rfl rfl ?_
  refine V_y (Y_assign rfl) rfl rfl rfl ?_
  refine V_to (fun _ _ => rfl) ?_
  obtain rfl := Option.some.inj hm
  refine C_ret ?_
  try simp only [↓inBlock_ret, ↓then_ret]
  exact retQ rfl (Res.two Try.results4 rfl rfl) ⟨v7, rfl, (Sl.out (Dw := Dw) h8 hA0 hK), hK.kp⟩

set_option maxRecDepth 4000 in
set_option maxHeartbeats 4000000 in
theorem cal_Meet_1_c (w : World) {A : Nat → Prop} (n : (List Int)) (v_n : Value) (h_n : Sl A w v_n n) {r : Bool} (hm : cal_Meet_1 n = some r) : Ret Try.prog 11 #[v_n] w fun v w' => v = .bool r ∧ w = w' := by
  unfold cal_Meet_1 at hm
  refine enter Try.func11 rfl Try.ntmps11 rfl ?_
  refine C_seq ?_
  refine C_region ?_
  refine V_y (Y_assign rfl) rfl rfl rfl ?_
  refine V_to (fun _ _ => rfl) ?_
  refine C_seq ?_
  refine C_region ?_
  refine V_y (Y_move rfl) rfl rfl rfl ?_
  obtain ⟨x3, hx3, hm⟩ := Option.bind_eq_some_iff.1 hm
  refine V_indexAddr h_n hx3 Try.underlying32 Try.sizeOf3 rfl rfl rfl ?_
  intro b4 o5 h6
  refine V_y (Y_load (El.int h6) Try.isAgg3 rfl) rfl rfl rfl ?_
  refine V_y (Y_gtr rfl rfl) rfl rfl rfl ?_
  refine V_y (Y_move rfl) rfl rfl rfl ?_
  obtain ⟨s8, hs8, hm⟩ := Option.bind_eq_some_iff.1 hm
  refine V_cut 5 (fun _ : Unit => [(12, .bool s8)]) (fun _ w' => w = w') ?_ ?_
  · simp only [List.take, List.drop]
    rcases Bool.eq_false_or_eq_true (decide ((0 : Int) < x3)) with hc7 | hc7
    · rw [if_pos hc7] at hs8
      refine V_ge rfl rfl rfl hc7 ?_
      refine V_y (Y_move rfl) rfl rfl rfl ?_
      refine V_ge rfl rfl rfl hc7 ?_
      obtain ⟨x9, hx9, hs8⟩ := Option.bind_eq_some_iff.1 hs8
      refine V_indexAddr h_n hx9 Try.underlying32 Try.sizeOf3 rfl rfl rfl ?_
      intro b10 o11 h12
      refine V_ge rfl rfl rfl hc7 ?_
      refine V_y (Y_load (El.int h12) Try.isAgg3 rfl) rfl rfl rfl ?_
      refine V_ge rfl rfl rfl hc7 ?_
      refine V_y (Y_gtr rfl rfl) rfl rfl rfl ?_
      refine V_y (Y_pick_te rfl hc7 rfl) rfl rfl rfl ?_
      obtain rfl := Option.some.inj hs8
      exact V_end fun a ha => ⟨(), ha.sub ⟨rfl, trivial⟩, rfl⟩
    · rw [if_neg (nt hc7)] at hs8
      refine V_gn rfl rfl rfl hc7 rfl rfl rfl ?_
      refine V_gn rfl rfl rfl hc7 rfl rfl rfl ?_
      refine V_gn rfl rfl rfl hc7 rfl rfl rfl ?_
      refine V_gn rfl rfl rfl hc7 rfl rfl rfl ?_
      refine V_y (Y_pick_fe rfl hc7 rfl) rfl rfl rfl ?_
      obtain rfl := Option.some.inj hs8
      exact V_end fun a ha => ⟨(), ha.sub ⟨rfl, trivial⟩, rfl⟩
  simp only [List.take, List.drop]
  rintro _ _ rfl
  refine V_y (Y_assign rfl) rfl rfl rfl ?_
  refine V_to (fun _ _ => rfl) ?_
  obtain rfl := Option.some.inj hm
  refine C_ret ?_
  try simp only [↓inBlock_ret, ↓then_ret]
  exact retQ rfl (Res.one Try.results11 rfl) ⟨rfl, rfl⟩

set_option maxRecDepth 4000 in
set_option maxHeartbeats 4000000 in
theorem cal_Meet_c (w : World) {A : Nat → Prop} (hA : ∀ b, w.heap.size ≤ b → A b) (a_ : (List cal_Span)) (v_a_ : Value) (h_a_ : Sl A w v_a_ a_) (b : (List cal_Span)) (v_b : Value) (h_b : Sl A w v_b b) {r : ((List cal_Span) × Int)} (hm : cal_Meet a_ b = some r) : Ret Try.prog 5 #[v_a_, v_b] w fun v w' => ∃ s0, v = .tuple #[s0, .int .i64 r.2] ∧ Sl A w' s0 r.1 ∧ Kp Dw w w' := by
  unfold cal_Meet at hm
  refine enter Try.func5 rfl Try.ntmps5 rfl ?_
  have hA0 := hA
  have hB := Nat.le_refl w.heap.size
  have hK : Tr Dw w.heap.size A w A w := Tr.refl (Dw := Dw) hA
  have hH : Hp w.heap.size A w [] := Hp.nil
  refine C_seq ?_
  refine C_region ?_
  refine V_y (Y_assign rfl) rfl rfl rfl ?_
  refine V_y (Y_assign rfl) rfl rfl rfl ?_
  refine V_to (fun _ _ => rfl) ?_
  refine C_seq ?_
  refine C_region ?_
  refine V_y (Y_move rfl) rfl rfl rfl ?_
  refine V_y (Y_move rfl) rfl rfl rfl ?_
  obtain ⟨x6, hx6, hm⟩ := Option.bind_eq_some_iff.1 hm
  refine V_call Try.call9 rfl rfl rfl rfl (cal_combined_c (Dw := Dw) w hA a_ v_a_ h_a_ b v_b h_b (fun y19 => cal_Meet_1 y19) 11 #[] #[] Try.call11 (fun w14 A15 ht16 h17 A18 y9 v10 h11 r12 h13 => (cal_Meet_1_c (A := fun _ => True) w14  y9 v10 (Sl.any h11)  h13).mono (fun _ _ h => ⟨h.1, h.2 ▸ Kp.refl (Dw := Dw) _⟩)) hx6) ?_
  rintro _ w20 ⟨v7, rfl, h8, hk21⟩
  have ht22 := Kp.tr (Dw := Dw) hk21 hA hB
  replace hH := Hp.kp (Dw := Dw) hH hk21
  replace h_a_ := Sl.tr (Dw := Dw) h_a_ ht22
  replace h_b := Sl.tr (Dw := Dw) h_b ht22
  replace hK := Tr.trans (Dw := Dw) hK ht22
  replace hB := Nat.le_trans hB ht22.ex.size
  replace hA := ht22.new
  refine V_y (Y_extract rfl rfl) rfl rfl rfl ?_
  refine V_y (Y_extract rfl rfl) rfl rfl rfl ?_
  refine V_y (Y_assign rfl) rfl rfl rfl ?_
  refine V_y (Y_assign rfl) rfl rfl rfl ?_
  refine V_to (fun _ _ => rfl) ?_
  obtain rfl := Option.some.inj hm
  refine C_ret ?_
  try simp only [↓inBlock_ret, ↓then_ret]
  exact retQ rfl (Res.two Try.results5 rfl rfl) ⟨v7, rfl, (Sl.out (Dw := Dw) h8 hA0 hK), hK.kp⟩

set_option maxRecDepth 4000 in
set_option maxHeartbeats 4000000 in
theorem cal_Minus_1_c (w : World) {A : Nat → Prop} (n : (List Int)) (v_n : Value) (h_n : Sl A w v_n n) {r : Bool} (hm : cal_Minus_1 n = some r) : Ret Try.prog 12 #[v_n] w fun v w' => v = .bool r ∧ w = w' := by
  unfold cal_Minus_1 at hm
  refine enter Try.func12 rfl Try.ntmps12 rfl ?_
  refine C_seq ?_
  refine C_region ?_
  refine V_y (Y_assign rfl) rfl rfl rfl ?_
  refine V_to (fun _ _ => rfl) ?_
  refine C_seq ?_
  refine C_region ?_
  refine V_y (Y_move rfl) rfl rfl rfl ?_
  obtain ⟨x3, hx3, hm⟩ := Option.bind_eq_some_iff.1 hm
  refine V_indexAddr h_n hx3 Try.underlying32 Try.sizeOf3 rfl rfl rfl ?_
  intro b4 o5 h6
  refine V_y (Y_load (El.int h6) Try.isAgg3 rfl) rfl rfl rfl ?_
  refine V_y (Y_gtr rfl rfl) rfl rfl rfl ?_
  refine V_y (Y_move rfl) rfl rfl rfl ?_
  obtain ⟨s8, hs8, hm⟩ := Option.bind_eq_some_iff.1 hm
  refine V_cut 5 (fun _ : Unit => [(12, .bool s8)]) (fun _ w' => w = w') ?_ ?_
  · simp only [List.take, List.drop]
    rcases Bool.eq_false_or_eq_true (decide ((0 : Int) < x3)) with hc7 | hc7
    · rw [if_pos hc7] at hs8
      refine V_ge rfl rfl rfl hc7 ?_
      refine V_y (Y_move rfl) rfl rfl rfl ?_
      refine V_ge rfl rfl rfl hc7 ?_
      obtain ⟨x9, hx9, hs8⟩ := Option.bind_eq_some_iff.1 hs8
      refine V_indexAddr h_n hx9 Try.underlying32 Try.sizeOf3 rfl rfl rfl ?_
      intro b10 o11 h12
      refine V_ge rfl rfl rfl hc7 ?_
      refine V_y (Y_load (El.int h12) Try.isAgg3 rfl) rfl rfl rfl ?_
      refine V_ge rfl rfl rfl hc7 ?_
      refine V_y (Y_eql rfl rfl) rfl rfl rfl ?_
      refine V_y (Y_pick_te rfl hc7 rfl) rfl rfl rfl ?_
      obtain rfl := Option.some.inj hs8
      exact V_end fun a ha => ⟨(), ha.sub ⟨rfl, trivial⟩, rfl⟩
    · rw [if_neg (nt hc7)] at hs8
      refine V_gn rfl rfl rfl hc7 rfl rfl rfl ?_
      refine V_gn rfl rfl rfl hc7 rfl rfl rfl ?_
      refine V_gn rfl rfl rfl hc7 rfl rfl rfl ?_
      refine V_gn rfl rfl rfl hc7 rfl rfl rfl ?_
      refine V_y (Y_pick_fe rfl hc7 rfl) rfl rfl rfl ?_
      obtain rfl := Option.some.inj hs8
      exact V_end fun a ha => ⟨(), ha.sub ⟨rfl, trivial⟩, rfl⟩
  simp only [List.take, List.drop]
  rintro _ _ rfl
  refine V_y (Y_assign rfl) rfl rfl rfl ?_
  refine V_to (fun _ _ => rfl) ?_
  obtain rfl := Option.some.inj hm
  refine C_ret ?_
  try simp only [↓inBlock_ret, ↓then_ret]
  exact retQ rfl (Res.one Try.results12 rfl) ⟨rfl, rfl⟩

set_option maxRecDepth 4000 in
set_option maxHeartbeats 4000000 in
theorem cal_Minus_c (w : World) {A : Nat → Prop} (hA : ∀ b, w.heap.size ≤ b → A b) (a_ : (List cal_Span)) (v_a_ : Value) (h_a_ : Sl A w v_a_ a_) (b : (List cal_Span)) (v_b : Value) (h_b : Sl A w v_b b) {r : ((List cal_Span) × Int)} (hm : cal_Minus a_ b = some r) : Ret Try.prog 6 #[v_a_, v_b] w fun v w' => ∃ s0, v = .tuple #[s0, .int .i64 r.2] ∧ Sl A w' s0 r.1 ∧ Kp Dw w w' := by
  unfold cal_Minus at hm
  refine enter Try.func6 rfl Try.ntmps6 rfl ?_
  have hA0 := hA
  have hB := Nat.le_refl w.heap.size
  have hK : Tr Dw w.heap.size A w A w := Tr.refl (Dw := Dw) hA
  have hH : Hp w.heap.size A w [] := Hp.nil
  refine C_seq ?_
  refine C_region ?_
  refine V_y (Y_assign rfl) rfl rfl rfl ?_
  refine V_y (Y_assign rfl) rfl rfl rfl ?_
  refine V_to (fun _ _ => rfl) ?_
  refine C_seq ?_
  refine C_region ?_
  refine V_y (Y_move rfl) rfl rfl rfl ?_
  refine V_y (Y_move rfl) rfl rfl rfl ?_
  obtain ⟨x6, hx6, hm⟩ := Option.bind_eq_some_iff.1 hm
  refine V_call Try.call9 rfl rfl rfl rfl (cal_combined_c (Dw := Dw) w hA a_ v_a_ h_a_ b v_b h_b (fun y19 => cal_Minus_1 y19) 12 #[] #[] Try.call12 (fun w14 A15 ht16 h17 A18 y9 v10 h11 r12 h13 => (cal_Minus_1_c (A := fun _ => True) w14  y9 v10 (Sl.any h11)  h13).mono (fun _ _ h => ⟨h.1, h.2 ▸ Kp.refl (Dw := Dw) _⟩)) hx6) ?_
  rintro _ w20 ⟨v7, rfl, h8, hk21⟩
  have ht22 := Kp.tr (Dw := Dw) hk21 hA hB
  replace hH := Hp.kp (Dw := Dw) hH hk21
  replace h_a_ := Sl.tr (Dw := Dw) h_a_ ht22
  replace h_b := Sl.tr (Dw := Dw) h_b ht22
  replace hK := Tr.trans (Dw := Dw) hK ht22
  replace hB := Nat.le_trans hB ht22.ex.size
  replace hA := ht22.new
  refine V_y (Y_extract rfl rfl) rfl rfl rfl ?_
  refine V_y (Y_extract rfl rfl) rfl rfl rfl ?_
  refine V_y (Y_assign rfl) rfl rfl rfl ?_
  refine V_y (Y_assign rfl) rfl rfl rfl ?_
  refine V_to (fun _ _ => rfl) ?_
  obtain rfl := Option.some.inj hm
  refine C_ret ?_
  try simp only [↓inBlock_ret, ↓then_ret]
  exact retQ rfl (Res.two Try.results6 rfl rfl) ⟨v7, rfl, (Sl.out (Dw := Dw) h8 hA0 hK), hK.kp⟩

set_option maxRecDepth 4000 in
set_option maxHeartbeats 4000000 in
theorem portref2_IsEnd_c (w : World) (m : Int) : Ret Try.prog 31 #[.int .i64 m] w fun v w' => v = .bool (portref2_IsEnd m) ∧ w = w' := by
  generalize hm : portref2_IsEnd m = r
  unfold portref2_IsEnd at hm
  refine enter Try.func31 rfl Try.ntmps31 rfl ?_
  refine C_seq ?_
  refine C_region ?_
  refine V_y (Y_assign rfl) rfl rfl rfl ?_
  refine V_to (fun _ _ => rfl) ?_
  refine C_seq ?_
  refine C_region ?_
  refine V_y (Y_move rfl) rfl rfl rfl ?_
  refine V_y (Y_geq rfl rfl) rfl rfl rfl ?_
  refine V_y (Y_move rfl) rfl rfl rfl ?_
  refine V_cut 3 (fun _ : Unit => [(8, .bool ((decide ((0 : Int) ≤ m)) && (decide (m ≤ 3000001))))]) (fun _ w' => w = w') ?_ ?_
  · simp only [List.take, List.drop]
    rcases Bool.eq_false_or_eq_true (decide ((0 : Int) ≤ m)) with hc1 | hc1
    · refine V_ge rfl rfl rfl hc1 ?_
      refine V_y (Y_move rfl) rfl rfl rfl ?_
      refine V_ge rfl rfl rfl hc1 ?_
      refine V_y (Y_leq rfl rfl) rfl rfl rfl ?_
      refine V_y (Y_pick_te rfl hc1 rfl) rfl rfl rfl ?_
      exact V_end fun a ha => ⟨(), ha.sub ⟨(by rw [hc1]; rfl), trivial⟩, rfl⟩
    · refine V_gn rfl rfl rfl hc1 rfl rfl rfl ?_
      refine V_gn rfl rfl rfl hc1 rfl rfl rfl ?_
      refine V_y (Y_pick_fe rfl hc1 rfl) rfl rfl rfl ?_
      exact V_end fun a ha => ⟨(), ha.sub ⟨(by rw [hc1]; rfl), trivial⟩, rfl⟩
  simp only [List.take, List.drop]
  rintro _ _ rfl
  refine V_y (Y_assign rfl) rfl rfl rfl ?_
  refine V_to (fun _ _ => rfl) ?_
  obtain rfl := hm
  refine C_ret ?_
  try simp only [↓inBlock_ret, ↓then_ret]
  exact retQ rfl (Res.one Try.results31 rfl) ⟨rfl, rfl⟩

set_option maxRecDepth 4000 in
set_option maxHeartbeats 4000000 in
theorem portref2_IsMoment_c (w : World) (m : Int) : Ret Try.prog 30 #[.int .i64 m] w fun v w' => v = .bool (portref2_IsMoment m) ∧ w = w' := by
  generalize hm : portref2_IsMoment m = r
  unfold portref2_IsMoment at hm
  refine enter Try.func30 rfl Try.ntmps30 rfl ?_
  refine C_seq ?_
  refine C_region ?_
  refine V_y (Y_assign rfl) rfl rfl rfl ?_
  refine V_to (fun _ _ => rfl) ?_
  refine C_seq ?_
  refine C_region ?_
  refine V_y (Y_move rfl) rfl rfl rfl ?_
  refine V_y (Y_geq rfl rfl) rfl rfl rfl ?_
  refine V_y (Y_move rfl) rfl rfl rfl ?_
  refine V_cut 3 (fun _ : Unit => [(8, .bool ((decide ((0 : Int) ≤ m)) && (decide (m ≤ 3000000))))]) (fun _ w' => w = w') ?_ ?_
  · simp only [List.take, List.drop]
    rcases Bool.eq_false_or_eq_true (decide ((0 : Int) ≤ m)) with hc1 | hc1
    · refine V_ge rfl rfl rfl hc1 ?_
      refine V_y (Y_move rfl) rfl rfl rfl ?_
      refine V_ge rfl rfl rfl hc1 ?_
      refine V_y (Y_leq rfl rfl) rfl rfl rfl ?_
      refine V_y (Y_pick_te rfl hc1 rfl) rfl rfl rfl ?_
      exact V_end fun a ha => ⟨(), ha.sub ⟨(by rw [hc1]; rfl), trivial⟩, rfl⟩
    · refine V_gn rfl rfl rfl hc1 rfl rfl rfl ?_
      refine V_gn rfl rfl rfl hc1 rfl rfl rfl ?_
      refine V_y (Y_pick_fe rfl hc1 rfl) rfl rfl rfl ?_
      exact V_end fun a ha => ⟨(), ha.sub ⟨(by rw [hc1]; rfl), trivial⟩, rfl⟩
  simp only [List.take, List.drop]
  rintro _ _ rfl
  refine V_y (Y_assign rfl) rfl rfl rfl ?_
  refine V_to (fun _ _ => rfl) ?_
  obtain rfl := hm
  refine C_ret ?_
  try simp only [↓inBlock_ret, ↓then_ret]
  exact retQ rfl (Res.one Try.results30 rfl) ⟨rfl, rfl⟩

set_option maxRecDepth 4000 in
set_option maxHeartbeats 4000000 in
theorem portref2_spanFault_c (w : World) {A : Nat → Prop} (hA : ∀ b, w.heap.size ≤ b → A b) (s : cal_Span) {r : Int} (hm : portref2_spanFault s = some r) : Ret Try.prog 21 #[.agg #[.int .i64 s.from_, .int .i64 s.to_]] w fun v w' => v = .int .i64 r ∧ Kp Dw w w' := by
  unfold portref2_spanFault at hm
  refine enter Try.func21 rfl Try.ntmps21 rfl ?_
  have hA0 := hA
  have hB := Nat.le_refl w.heap.size
  have hK : Tr Dw w.heap.size A w A w := Tr.refl (Dw := Dw) hA
  have hH : Hp w.heap.size A w [] := Hp.nil
  refine C_seq ?_
  refine C_region ?_
  refine V_box rfl rfl ?_
  intro b1 w2 h3
  have hk5 := h3.kp (Dw := Dw)
  have h4 : El (α := cal_Span) A w2 b1 0 s := h3.el hA ⟨[.int .i64 s.from_], _, rfl, rfl, rfl⟩
  have ht6 := Kp.tr (Dw := Dw) hk5 hA hB
  replace hH := Hp.kp (Dw := Dw) hH hk5
  replace hK := Tr.trans (Dw := Dw) hK ht6
  replace hB := Nat.le_trans hB ht6.ex.size
  replace hA := ht6.new
  refine V_y (Y_assign rfl) rfl rfl rfl ?_
  refine V_to (fun _ _ => rfl) ?_
  refine C_seq ?_
  refine C_block ?_
  refine C_seq ?_
  refine C_region ?_
  have h7 := El_cal_Span_0 h4
  refine V_y (Y_fieldAddr Try.underlying30 rfl Try.sizeOf3 (by decide) rfl) rfl rfl rfl ?_
  refine V_y (Y_load (El.int h7) Try.isAgg3 rfl) rfl rfl rfl ?_
  refine V_call Try.call30 rfl rfl rfl rfl (portref2_IsMoment_c w2 s.from_) ?_
  rintro _ _ ⟨rfl, rfl⟩
  refine V_y (Y_not rfl) rfl rfl rfl ?_
  refine V_y (Y_move rfl) rfl rfl rfl ?_
  refine V_cut 5 (fun _ : Unit => [(1, .pointer (some ⟨b1, 0, none⟩)), (13, .bool ((!(portref2_IsMoment s.from_)) || (!(portref2_IsEnd s.to_))))]) (fun _ w' => w2 = w') ?_ ?_
  · simp only [List.take, List.drop]
    rcases Bool.eq_false_or_eq_true (!(portref2_IsMoment s.from_)) with hc8 | hc8
    · refine V_gn rfl rfl rfl hc8 rfl rfl rfl ?_
      refine V_gn rfl rfl rfl hc8 rfl rfl rfl ?_
      refine V_gn rfl rfl rfl hc8 rfl rfl rfl ?_
      refine V_gn rfl rfl rfl hc8 rfl rfl rfl ?_
      refine V_y (Y_pick_te rfl hc8 rfl) rfl rfl rfl ?_
      exact V_end fun a ha => ⟨(), ha.sub ⟨rfl, (by rw [hc8]; rfl), trivial⟩, rfl⟩
    · refine V_ge rfl rfl rfl hc8 ?_
      have h10 := El_cal_Span_1 h4
      refine V_y (Y_fieldAddr Try.underlying30 rfl Try.sizeOf3 (by decide) rfl) rfl rfl rfl ?_
      refine V_ge rfl rfl rfl hc8 ?_
      refine V_y (Y_load (El.int h10) Try.isAgg3 rfl) rfl rfl rfl ?_
      refine V_ge rfl rfl rfl hc8 ?_
      refine V_call Try.call31 rfl rfl rfl rfl (portref2_IsEnd_c w2 s.to_) ?_
      rintro _ _ ⟨rfl, rfl⟩
      refine V_ge rfl rfl rfl hc8 ?_
      refine V_y (Y_not rfl) rfl rfl rfl ?_
      refine V_y (Y_pick_fe rfl hc8 rfl) rfl rfl rfl ?_
      exact V_end fun a ha => ⟨(), ha.sub ⟨rfl, (by rw [hc8]; rfl), trivial⟩, rfl⟩
  simp only [List.take, List.drop]
  rintro _ _ rfl
  refine V_y (Y_assign rfl) rfl rfl rfl ?_
  refine V_to (fun _ _ => rfl) ?_
  refine C_cond rfl (fun hc11 => ?_) (fun hc11 => ?_)
  · rw [if_pos hc11] at hm
    refine C_seq ?_
    refine C_region ?_
    refine V_y (Y_assign rfl) rfl rfl rfl ?_
    refine V_to (fun _ _ => rfl) ?_
    obtain rfl := Option.some.inj hm
    refine C_ret ?_
    try simp only [↓inBlock_ret, ↓then_ret]
    exact retQ rfl (Res.one Try.results21 rfl) ⟨rfl, hK.kp⟩
  · rw [if_neg (nt hc11)] at hm
    refine C_seq ?_
    refine C_region ?_
    have h12 := El_cal_Span_1 h4
    refine V_y (Y_fieldAddr Try.underlying30 rfl Try.sizeOf3 (by decide) rfl) rfl rfl rfl ?_
    refine V_y (Y_load (El.int h12) Try.isAgg3 rfl) rfl rfl rfl ?_
    have h13 := El_cal_Span_0 h4
    refine V_y (Y_fieldAddr Try.underlying30 rfl Try.sizeOf3 (by decide) rfl) rfl rfl rfl ?_
    refine V_y (Y_load (El.int h13) Try.isAgg3 rfl) rfl rfl rfl ?_
    refine V_y (Y_leq rfl rfl) rfl rfl rfl ?_
    refine V_y (Y_assign rfl) rfl rfl rfl ?_
    refine V_to (fun _ _ => rfl) ?_
    refine C_cond rfl (fun hc14 => ?_) (fun hc14 => ?_)
    · rw [if_pos hc14] at hm
      refine C_seq ?_
      refine C_region ?_
      refine V_y (Y_assign rfl) rfl rfl rfl ?_
      refine V_to (fun _ _ => rfl) ?_
      obtain rfl := Option.some.inj hm
      refine C_ret ?_
      try simp only [↓inBlock_ret, ↓then_ret]
      exact retQ rfl (Res.one Try.results21 rfl) ⟨rfl, hK.kp⟩
    · rw [if_neg (nt hc14)] at hm
      refine C_skip_to (fun _ _ => rfl) ?_
      refine C_seq ?_
      refine C_region ?_
      refine V_y (Y_assign rfl) rfl rfl rfl ?_
      refine V_to (fun _ _ => rfl) ?_
      obtain rfl := Option.some.inj hm
      refine C_ret ?_
      try simp only [↓inBlock_ret, ↓then_ret]
      exact retQ rfl (Res.one Try.results21 rfl) ⟨rfl, hK.kp⟩

set_option maxRecDepth 4000 in
set_option maxHeartbeats 4000000 in
theorem portref2_SpansFault_c (w : World) {A : Nat → Prop} (hA : ∀ b, w.heap.size ≤ b → A b) (l : (List cal_Span)) (v_l : Value) (h_l : Sl A w v_l l) {r : Int} (hm : portref2_SpansFault l = some r) : Ret Try.prog 13 #[v_l] w fun v w' => v = .int .i64 r ∧ Kp Dw w w' := by
  unfold portref2_SpansFault at hm
  refine enter Try.func13 rfl Try.ntmps13 rfl ?_
  have hA0 := hA
  have hB := Nat.le_refl w.heap.size
  have hK : Tr Dw w.heap.size A w A w := Tr.refl (Dw := Dw) hA
  have hH : Hp w.heap.size A w [] := Hp.nil
  refine C_seq ?_
  refine C_region ?_
  refine V_y (Y_assign rfl) rfl rfl rfl ?_
  refine V_to (fun _ _ => rfl) ?_
  refine C_seq ?_
  refine C_seq ?_
  refine C_region ?_
  refine V_y (Y_move rfl) rfl rfl rfl ?_
  refine V_y (Y_lenSl h_l rfl Try.underlying22 rfl) rfl rfl rfl ?_
  refine V_y (Y_gtr rfl rfl) rfl rfl rfl ?_
  refine V_to (fun _ _ => rfl) ?_
  refine C_cond rfl (fun hc3 => ?_) (fun hc3 => ?_)
  · rw [if_pos hc3] at hm
    refine C_seq ?_
    refine C_region ?_
    refine V_y (Y_assign rfl) rfl rfl rfl ?_
    refine V_to (fun _ _ => rfl) ?_
    obtain rfl := Option.some.inj hm
    refine C_ret ?_
    try simp only [↓inBlock_ret, ↓then_ret]
    exact retQ rfl (Res.one Try.results13 rfl) ⟨rfl, hK.kp⟩
  · rw [if_neg (nt hc3)] at hm
    refine C_skip_to (fun _ _ => rfl) ?_
    refine C_seq ?_
    refine C_seq ?_
    refine C_region ?_
    refine V_y (Y_move rfl) rfl rfl rfl ?_
    refine V_y (Y_lenSl h_l rfl Try.underlying22 rfl) rfl rfl rfl ?_
    refine V_y (Y_move rfl) rfl rfl rfl ?_
    refine V_to (fun _ _ => rfl) ?_
    have hn25 := Sl.le h_l
    obtain ⟨o4, ho4, hm⟩ := Option.bind_eq_some_iff.1 hm
    refine C_cutG (ι := (Unit × (Nat → Prop))) (fun ⟨s5, A12⟩ => []) (fun ⟨s5, A12⟩ => fun w' => o4 = .fin s5 ∧ Hp w.heap.size A12 w' ([]) ∧ Tr Dw w.heap.size A w A12 w') ?_ ?_
    · refine C_block ?_
      refine C_range ho4 (fun k7 _ a w' => ∃ i : (Nat → Prop), Has ⟨35, [], none⟩ a ([(0, v_l), (9, v_l), (10, .int .i64 (l.length : Int)), (11, .int .i64 (k7 : Int))]) ∧ Hp w.heap.size i w' ([]) ∧ Tr Dw w.heap.size A w i w') (fun a ha => ⟨A, ha.sub ⟨rfl, rfl, rfl, rfl, trivial⟩, ⟨hH, Tr.refl (Dw := Dw) hA⟩⟩) ?_
      rintro K k7 _ a w15 ⟨A16, ha60, hH17, hr6⟩ hle21 K24 h23
      refine C_of ?_ ha60
      replace h_l := Sl.tr (Dw := Dw) h_l hr6
      replace hK := Tr.trans (Dw := Dw) hK hr6
      replace hB := Nat.le_trans hB hr6.ex.size
      replace hA := hr6.new
      replace hH : Hp w.heap.size A16 w15 ([]) := hH17
      refine C_seq (C_region (V_y (Y_lss rfl rfl) rfl rfl rfl (V_to (fun _ _ => rfl) ?_)))
      refine C_seq ?_
      refine C_cond rfl (fun hc26 => ?_) (fun hc26 => ?_)
      · have hlt22 := lt_of_dec hc26
        obtain ⟨x18, h19, h20⟩ := K24 hlt22
        refine C_skip_to (fun _ _ => rfl) ?_
        refine C_seq ?_
        refine C_block ?_
        refine C_seq ?_
        refine C_region ?_
        refine V_y (Y_move rfl) rfl rfl rfl ?_
        obtain ⟨x27, hx27, h19⟩ := Option.bind_eq_some_iff.1 h19
        refine V_indexAddr h_l hx27 Try.underlying22 Try.sizeOf30 rfl rfl rfl ?_
        intro b28 o29 h30
        obtain ⟨h31, _⟩ := El_cal_Span h30
        refine V_y (Y_loadA h31 Try.isAgg30 Try.sizeOf30 rfl) rfl rfl rfl ?_
        refine V_alloc Try.zeroValue30 rfl ?_
        intro b32 w33 h34
        refine V_y (Y_assign rfl) rfl rfl rfl ?_
        refine V_storeNew h34 Try.sizeOf30 rfl rfl rfl rfl (by exact (List.forall_mem_cons.2 ⟨rfl, (List.forall_mem_cons.2 ⟨rfl, (fun _ h => nomatch h)⟩)⟩)) ?_
        intro w35 h36
        have hk38 := h36.kp (Dw := Dw)
        have h37 : El (α := cal_Span) A16 w35 b32 0 x27 := h36.el hA ⟨[.int .i64 x27.from_], _, rfl, rfl, rfl⟩
        have ht39 := Kp.tr (Dw := Dw) hk38 hA hB
        replace hH := Hp.kp (Dw := Dw) hH hk38
        replace h_l := Sl.tr (Dw := Dw) h_l ht39
        replace h30 := El.tr (Dw := Dw) h30 ht39
        replace hK := Tr.trans (Dw := Dw) hK ht39
        replace hr6 := Tr.trans (Dw := Dw) hr6 ht39
        replace hB := Nat.le_trans hB ht39.ex.size
        replace hA := ht39.new
        refine V_to (fun _ _ => rfl) ?_
        refine C_seq ?_
        refine C_seq ?_
        refine C_region ?_
        obtain ⟨h40, _⟩ := El_cal_Span h37
        refine V_y (Y_loadA h40 Try.isAgg30 Try.sizeOf30 rfl) rfl rfl rfl ?_
        obtain ⟨x41, hx41, h19⟩ := Option.bind_eq_some_iff.1 h19
        refine V_call Try.call21 rfl rfl rfl rfl (portref2_spanFault_c (Dw := Dw) w35 hA x27 hx41) ?_
        rintro _ w42 ⟨rfl, hk43⟩
        have ht44 := Kp.tr (Dw := Dw) hk43 hA hB
        replace hH := Hp.kp (Dw := Dw) hH hk43
        replace h_l := Sl.tr (Dw := Dw) h_l ht44
        replace h37 := El.tr (Dw := Dw) h37 ht44
        replace hK := Tr.trans (Dw := Dw) hK ht44
        replace hr6 := Tr.trans (Dw := Dw) hr6 ht44
        replace hB := Nat.le_trans hB ht44.ex.size
        replace hA := ht44.new
        refine V_y (Y_assign rfl) rfl rfl rfl ?_
        refine V_to (fun _ _ => rfl) ?_
        refine C_seq ?_
        refine C_region ?_
        refine V_y (Y_move rfl) rfl rfl rfl ?_
        refine V_y (Y_neq rfl rfl) rfl rfl rfl ?_
        refine V_to (fun _ _ => rfl) ?_
        refine C_cond rfl (fun hc45 => ?_) (fun hc45 => ?_)
        · rw [if_pos hc45] at h19
          refine C_seq ?_
          refine C_region ?_
          refine V_y (Y_move rfl) rfl rfl rfl ?_
          refine V_y (Y_assign rfl) rfl rfl rfl ?_
          refine V_to (fun _ _ => rfl) ?_
          obtain rfl := Option.some.inj h19
          obtain rfl := (h20 : Lp.rt _ = _)
          rw [Lp.andThen_rt] at hm
          obtain rfl := Option.some.inj hm
          refine C_ret ?_
          try simp only [↓inBlock_ret, ↓then_ret]
          exact retQ rfl (Res.one Try.results13 rfl) ⟨rfl, hK.kp⟩
        · rw [if_neg (nt hc45)] at h19
          refine C_skip_to (fun _ _ => rfl) ?_
          refine C_seq ?_
          refine C_region_q (Dw := Dw) Try_mixed (by kernel_rfl) ?_
          refine VQ_y (fun w' hw' => Y_move rfl) rfl rfl rfl ?_
          refine VQ_y (fun w' hw' => Y_gtr rfl rfl) rfl rfl rfl ?_
          refine VQ_y (fun w' hw' => Y_move rfl) rfl rfl rfl ?_
          obtain ⟨s47, hs47, h19⟩ := Option.bind_eq_some_iff.1 h19
          refine VQ_cut 10 (fun _ : Unit => [(0, v_l), (9, v_l), (10, .int .i64 (l.length : Int)), (11, .int .i64 (k7 : Int)), (33, .bool s47)]) (fun _ => True) ?_ ?_
          · simp only [List.take, List.drop]
            rcases Bool.eq_false_or_eq_true (decide ((0 : Int) < (k7 : Int))) with hc46 | hc46
            · rw [if_pos hc46] at hs47
              refine VQ_ge rfl rfl rfl hc46 ?_
              have h48 := El_cal_Span_0 h37
              refine VQ_y (fun w' hw' => Y_fieldAddr Try.underlying30 rfl Try.sizeOf3 (by decide) rfl) rfl rfl rfl ?_
              refine VQ_ge rfl rfl rfl hc46 ?_
              refine VQ_y (fun w' hw' => Y_load (El.int (El.kp (Dw := Dw) h48 hw')) Try.isAgg3 rfl) rfl rfl rfl ?_
              refine VQ_ge rfl rfl rfl hc46 ?_
              refine VQ_y (fun w' hw' => Y_move rfl) rfl rfl rfl ?_
              refine VQ_ge rfl rfl rfl hc46 ?_
              refine VQ_y (fun w' hw' => Y_move rfl) rfl rfl rfl ?_
              refine VQ_ge rfl rfl rfl hc46 ?_
              refine VQ_y (fun w' hw' => Y_subI rfl rfl) rfl rfl rfl ?_
              refine VQ_ge rfl rfl rfl hc46 ?_
              obtain ⟨x49, hx49, hs47⟩ := Option.bind_eq_some_iff.1 hs47
              refine VQ_indexAddr h_l hx49 Try.underlying22 Try.sizeOf30 rfl rfl rfl ?_
              intro b50 o51 h52
              refine VQ_ge rfl rfl rfl hc46 ?_
              have h53 := El_cal_Span_1 h52
              refine VQ_y (fun w' hw' => Y_fieldAddr Try.underlying30 rfl Try.sizeOf3 (by decide) rfl) rfl rfl rfl ?_
              refine VQ_ge rfl rfl rfl hc46 ?_
              refine VQ_y (fun w' hw' => Y_load (El.int (El.kp (Dw := Dw) h53 hw')) Try.isAgg3 rfl) rfl rfl rfl ?_
              refine VQ_ge rfl rfl rfl hc46 ?_
              refine VQ_y (fun w' hw' => Y_leq rfl rfl) rfl rfl rfl ?_
              refine VQ_y (fun _ _ => Y_pick_te rfl hc46 rfl) rfl rfl rfl ?_
              obtain rfl := Option.some.inj hs47
              exact VQ_end fun a ha => ⟨(), ha.sub ⟨rfl, rfl, rfl, rfl, rfl, trivial⟩, trivial⟩
            · rw [if_neg (nt hc46)] at hs47
              refine VQ_gn rfl rfl rfl hc46 rfl rfl rfl ?_
              refine VQ_gn rfl rfl rfl hc46 rfl rfl rfl ?_
              refine VQ_gn rfl rfl rfl hc46 rfl rfl rfl ?_
              refine VQ_gn rfl rfl rfl hc46 rfl rfl rfl ?_
              refine VQ_gn rfl rfl rfl hc46 rfl rfl rfl ?_
              refine VQ_gn rfl rfl rfl hc46 rfl rfl rfl ?_
              refine VQ_gn rfl rfl rfl hc46 rfl rfl rfl ?_
              refine VQ_gn rfl rfl rfl hc46 rfl rfl rfl ?_
              refine VQ_gn rfl rfl rfl hc46 rfl rfl rfl ?_
              refine VQ_y (fun _ _ => Y_pick_fe rfl hc46 rfl) rfl rfl rfl ?_
              obtain rfl := Option.some.inj hs47
              exact VQ_end fun a ha => ⟨(), ha.sub ⟨rfl, rfl, rfl, rfl, rfl, trivial⟩, trivial⟩
          simp only [List.take, List.drop]
          rintro _ _
          refine VQ_to (fun _ _ => rfl) (fun w54 hk55 => ?_)
          have ht56 := Kp.tr (Dw := Dw) hk55 hA hB
          replace hH := Hp.kp (Dw := Dw) hH hk55
          replace h_l := Sl.tr (Dw := Dw) h_l ht56
          replace hK := Tr.trans (Dw := Dw) hK ht56
          replace hr6 := Tr.trans (Dw := Dw) hr6 ht56
          replace hB := Nat.le_trans hB ht56.ex.size
          replace hA := ht56.new
          refine C_cond rfl (fun hc57 => ?_) (fun hc57 => ?_)
          · rw [if_pos hc57] at h19
            refine C_seq ?_
            refine C_region ?_
            refine V_y (Y_assign rfl) rfl rfl rfl ?_
            refine V_to (fun _ _ => rfl) ?_
            obtain rfl := Option.some.inj h19
            obtain rfl := (h20 : Lp.rt _ = _)
            rw [Lp.andThen_rt] at hm
            obtain rfl := Option.some.inj hm
            refine C_ret ?_
            try simp only [↓inBlock_ret, ↓then_ret]
            exact retQ rfl (Res.one Try.results13 rfl) ⟨rfl, hK.kp⟩
          · rw [if_neg (nt hc57)] at h19
            refine C_skip_to (fun _ _ => rfl) ?_
            refine C_region ?_
            refine V_y (Y_addI rfl rfl) rfl rfl rfl ?_
            refine V_y (Y_move rfl) rfl rfl rfl ?_
            obtain rfl := Option.some.inj h19
            refine V_end (fun a ha58 => ?_)
            exact ⟨(), hlt22, h20, ⟨A16, ha58.sub ⟨rfl, rfl, rfl, (congrArg (fun z => some (Value.int .i64 z)) (w64_succ hlt22 hn25)), trivial⟩, ⟨hH, hr6⟩⟩⟩
      · refine C_exit (fun a ha59 => ?_)
        exact ⟨((), A16), ha59.sub trivial, ⟨(h23 (eq_of_dec hle21 hc26)).symm, hH, hr6⟩⟩
    rintro ⟨s5, A12⟩ w9 ⟨rfl, hH13, hk10⟩ a ha11
    rw [Lp.andThen_fin] at hm
    replace hK := Tr.trans (Dw := Dw) hK hk10
    replace hB := Nat.le_trans hB hk10.ex.size
    replace hA := hk10.new
    replace hH : Hp w.heap.size A12 w9 ([]) := hH13
    refine C_at (n := ⟨35, [], none⟩) (fun _ _ => rfl) ?_ ha11
    refine C_seq ?_
    refine C_region ?_
    refine V_y (Y_assign rfl) rfl rfl rfl ?_
    refine V_to (fun _ _ => rfl) ?_
    obtain rfl := Option.some.inj hm
    refine C_ret ?_
    try simp only [↓inBlock_ret, ↓then_ret]
    exact retQ rfl (Res.one Try.results13 rfl) ⟨rfl, hK.kp⟩

def Try_cp23_ren : Go.Shelf.Ren := ⟨fun | 20 => 23 | n => n, fun | 0 => 0 | 1 => 1 | 2 => 2 | 3 => 3 | 4 => 4 | 5 => 5 | 6 => 6 | 7 => 7 | 8 => 8 | 9 => 9 | 10 => 10 | 11 => 11 | 12 => 12 | 13 => 13 | 14 => 14 | 15 => 15 | 16 => 16 | 17 => 17 | 18 => 18 | 19 => 19 | 20 => 20 | 21 => 21 | 22 => 32 | 23 => 44 | 33 => 67 | 40 => 56 | 41 => 65 | 42 => 38 | 45 => 43 | 46 => 90 | 47 => 91 | 48 => 92 | 49 => 93 | 50 => 94 | 51 => 95 | 52 => 96 | 53 => 70 | 54 => 97 | 55 => 98 | 56 => 99 | 57 => 100 | 58 => 101 | 59 => 102 | 60 => 103 | 61 => 104 | 62 => 105 | n => n, fun n => n⟩
theorem Try_cp23_lay : Go.Proofs.Lays2.n20 Try.prog Try_cp23_ren := {
  mixed := by kernel_rfl,
  f20 := Try.func23.trans (congrArg some (by kernel_rfl)),
  t0 := Try.underlying0,
  a0 := Try.isAgg0,
  z0 := Try.sizeOf0,
  v0 := Try.zeroValue0,
  t3 := Try.underlying3,
  a3 := Try.isAgg3,
  z3 := Try.sizeOf3,
  v3 := Try.zeroValue3,
  t4 := Try.underlying4,
  a4 := Try.isAgg4,
  z4 := Try.sizeOf4,
  v4 := Try.zeroValue4,
  t22 := Try.underlying32,
  a22 := Try.isAgg32,
  z22 := Try.sizeOf32,
  v22 := Try.zeroValue32,
  i3 := by kernel_rfl }
theorem Try_cp23 {l r : List Int} {B : Nat} {A : Nat → Prop} {w : World} {L : List Ob} {i : Nat} {v : Value} (hH : Hp B A w L) (hi : L[i]? = some (obS (α := Int) 3 v l)) (hB : B ≤ w.heap.size) (hA : ∀ b, w.heap.size ≤ b → A b) (hr : compactIntsL l = some r) : Ret Try.prog 23 #[v] w fun u w' => ∃ v', u = v' ∧ Hp B A w' (L.set i (obS (α := Int) 3 v' r)) ∧ Tr Dw B A w A w' :=
  Hp.compactInts (Dw := Dw) (fun a c w => Go.Proofs.Any.slices_Compact_int_empty Try_cp23_lay a c w) (fun blk off cap zs w h1 h2 h3 => Go.Proofs.Any.slices_Compact_int Try_cp23_lay blk off cap zs w h1 h2 h3) hH hi hB hA hr

end Go.Proofs.Ytcebkcahemiaoaa.W
