/-
  Written by program (gen.py) from the IR of the dump: each function computes its model.
-/
import Derived.Test.YtcfhifbmjjhhdaaProg
import Derived.Test.YtcfhifbmjjhhdaaGe
import Derived.Test.YtcfhifbmjjhhdaaCalNormalM
import Derived.KernelRfl
import Derived.Test.YtcfhifbmjjhhdaaGy
import Derived.Test.YtcfhifbmjjhhdaaHe
import Derived.Test.YtcfhifbmjjhhdaaHg
import Derived.Test.YtcfhifbmjjhhdaaHf
import Derived.Shelf.Slices.CompactI
import Derived.Test.YtcfhifbmjjhhdaaGz
import Derived.Shelf.Sort.Plain
import Derived.Shelf.Slices.In.SortNone
namespace Go.Proofs.Ytcfhifbmjjhhdaa.W
open Go Go.RowKit Go.Pu Go.Gw Go.Proofs Go.Proofs.Ytcfhifbmjjhhdaa.M
set_option linter.unusedVariables false
set_option linter.unusedSimpArgs false
variable {Dw : Prop}

theorem Try_info3 : Try.prog.info? 3 = some Try.t3 := by kernel_rfl
theorem Try_info39 : Try.prog.info? 39 = some Try.t39 := by kernel_rfl
theorem Try_info73 : Try.prog.info? 73 = some Try.t73 := by kernel_rfl
theorem Try_places39 : ∀ fs, Try.prog.underlying 39 = some (.struct fs) → ∀ w : World, (Array.mapM (fun (f : Field) => do pure (f.offset, ← Go.sizeOf f.type)) fs).run Try.prog w = .ok #[(0, 1), (1, 1)] w := by
  intro fs h w
  rw [Try.underlying39] at h
  cases h
  kernel_rfl
theorem Try_places73 : ∀ fs, Try.prog.underlying 73 = some (.struct fs) → ∀ w : World, (Array.mapM (fun (f : Field) => do pure (f.offset, ← Go.sizeOf f.type)) fs).run Try.prog w = .ok #[(0, 1), (1, 1), (2, 1)] w := by
  intro fs h w
  rw [Try.underlying73] at h
  cases h
  kernel_rfl
theorem Try_eqt39_10000 (a0 : Int) (a1 : Int) (b0 : Int) (b1 : Int) (w : World) : (Op.equalIn 10000 39 (.agg #[.int .i64 a0, .int .i64 a1]) (.agg #[.int .i64 b0, .int .i64 b1])).run Try.prog w = .ok (a0 == b0 && (a1 == b1)) w := by
  refine (run_equalIn_struct w 9999 39 _ _ (by kernel_rfl) (by kernel_rfl)).trans ?_
  rw [show Try.prog.fieldsOf 39 = _ from by unfold Program.fieldsOf; rw [Try.underlying39]]
  cases h0 : (a0 == b0) <;> cases h1 : (a1 == b1) <;> simp_all [Op.eqFields, part, strEq, Try.isAgg3, run_equalIn_int _ _ _ _ _ _ _ Try.underlying3]
theorem Try_eqg39 : Try.prog.eqGuardType Try.prog.depth 39 = false := by kernel_rfl
def Try_so_ren : Go.Shelf.Ren := ⟨fun | 125 => 36 | 128 => 55 | 129 => 56 | 189 => 43 | 215 => 37 | 216 => 79 | 257 => 58 | 294 => 73 | 295 => 74 | 296 => 75 | 297 => 76 | 298 => 77 | 299 => 78 | 300 => 80 | 301 => 81 | 328 => 86 | 329 => 61 | 330 => 62 | 331 => 87 | 332 => 88 | 343 => 90 | n => n, fun | 0 => 0 | 1 => 1 | 2 => 2 | 3 => 3 | 4 => 4 | 5 => 5 | 6 => 6 | 7 => 7 | 8 => 8 | 9 => 9 | 10 => 10 | 11 => 11 | 12 => 12 | 13 => 13 | 14 => 14 | 15 => 15 | 16 => 16 | 17 => 17 | 18 => 18 | 19 => 19 | 20 => 20 | 21 => 21 | 28 => 45 | 35 => 76 | 43 => 56 | 45 => 63 | 46 => 70 | 47 => 69 | 51 => 89 | 52 => 88 | 53 => 91 | 54 => 90 | 80 => 121 | 81 => 127 | 111 => 66 | 112 => 109 | 127 => 131 | 131 => 86 | 134 => 93 | 164 => 136 | 181 => 106 | 182 => 81 | 183 => 82 | 184 => 107 | 185 => 108 | 186 => 110 | 187 => 111 | 218 => 95 | 219 => 96 | 220 => 97 | 221 => 117 | 222 => 99 | 223 => 118 | 228 => 112 | 229 => 113 | 230 => 120 | 238 => 122 | 239 => 123 | 240 => 124 | 241 => 125 | 242 => 126 | 243 => 128 | 244 => 129 | 245 => 130 | 246 => 132 | 247 => 133 | 248 => 134 | 249 => 135 | n => n, fun n => n⟩
theorem Try_so : Go.Proofs.Lays.n189 Try.prog Try_so_ren := {
  mixed := by kernel_rfl,
  f125 := Try.func36.trans (congrArg some (by kernel_rfl)),
  f128 := Try.func55.trans (congrArg some (by kernel_rfl)),
  f129 := Try.func56.trans (congrArg some (by kernel_rfl)),
  f189 := Try.func43.trans (congrArg some (by kernel_rfl)),
  f215 := Try.func37.trans (congrArg some (by kernel_rfl)),
  f216 := Try.func79.trans (congrArg some (by kernel_rfl)),
  f257 := Try.func58.trans (congrArg some (by kernel_rfl)),
  f294 := Try.func73.trans (congrArg some (by kernel_rfl)),
  f295 := Try.func74.trans (congrArg some (by kernel_rfl)),
  f296 := Try.func75.trans (congrArg some (by kernel_rfl)),
  f297 := Try.func76.trans (congrArg some (by kernel_rfl)),
  f298 := Try.func77.trans (congrArg some (by kernel_rfl)),
  f299 := Try.func78.trans (congrArg some (by kernel_rfl)),
  f300 := Try.func80.trans (congrArg some (by kernel_rfl)),
  f301 := Try.func81.trans (congrArg some (by kernel_rfl)),
  f328 := Try.func86.trans (congrArg some (by kernel_rfl)),
  f329 := Try.func61.trans (congrArg some (by kernel_rfl)),
  f330 := Try.func62.trans (congrArg some (by kernel_rfl)),
  f331 := Try.func87.trans (congrArg some (by kernel_rfl)),
  f332 := Try.func88.trans (congrArg some (by kernel_rfl)),
  f343 := Try.func90.trans (congrArg some (by kernel_rfl)),
  t0 := Try.underlying0,
  a0 := Try.isAgg0,
  z0 := Try.sizeOf0,
  v0 := Try.zeroValue0,
  t3 := Try.underlying3,
  a3 := Try.isAgg3,
  z3 := Try.sizeOf3,
  v3 := Try.zeroValue3,
  t4 := Try.underlying4,
  a4 := Try.isAgg4,
  z4 := Try.sizeOf4,
  v4 := Try.zeroValue4,
  t5 := Try.underlying5,
  a5 := Try.isAgg5,
  z5 := Try.sizeOf5,
  v5 := Try.zeroValue5,
  t9 := Try.underlying9,
  a9 := Try.isAgg9,
  z9 := Try.sizeOf9,
  v9 := Try.zeroValue9,
  t28 := Try.underlying45,
  a28 := Try.isAgg45,
  z28 := Try.sizeOf45,
  v28 := Try.zeroValue45,
  t46 := Try.underlying70,
  a46 := Try.isAgg70,
  z46 := Try.sizeOf70,
  v46 := Try.zeroValue70,
  t51 := Try.underlying89,
  a51 := Try.isAgg89,
  z51 := Try.sizeOf89,
  v51 := Try.zeroValue89,
  t53 := Try.underlying91,
  a53 := Try.isAgg91,
  z53 := Try.sizeOf91,
  v53 := Try.zeroValue91,
  t131 := Try.underlying86,
  a131 := Try.isAgg86,
  z131 := Try.sizeOf86,
  v131 := Try.zeroValue86,
  t182 := Try.underlying81,
  a182 := Try.isAgg81,
  z182 := Try.sizeOf81,
  v182 := Try.zeroValue81,
  t183 := Try.underlying82,
  a183 := Try.isAgg82,
  z183 := Try.sizeOf82,
  v183 := Try.zeroValue82,
  t218 := Try.underlying95,
  a218 := Try.isAgg95,
  z218 := Try.sizeOf95,
  v218 := Try.zeroValue95,
  t222 := Try.underlying99,
  a222 := Try.isAgg99,
  z222 := Try.sizeOf99,
  v222 := Try.zeroValue99,
  t228 := Try.underlying112,
  a228 := Try.isAgg112,
  z228 := Try.sizeOf112,
  v228 := Try.zeroValue112,
  t229 := Try.underlying113,
  a229 := Try.isAgg113,
  z229 := Try.sizeOf113,
  v229 := Try.zeroValue113 }
theorem Try_sortInts {B : Nat} {A : Nat → Prop} {w : World} {L : List Ob} {i : Nat} {e : TypeId} {v : Value} {l r : List Int} (hH : Hp B A w L) (hi : L[i]? = some (obS (α := Int) e v l)) (hB : B ≤ w.heap.size) (hA : ∀ b, w.heap.size ≤ b → A b) (hr : sortIntsL l = some r) : Ret Try.prog 43 #[v] w fun u w' => u = .tuple #[] ∧ Hp B A w' (L.set i (obS e v r)) ∧ Tr Dw B A w A w' :=
  Hp.sortInts (Dw := Dw) (fun w => Go.Proofs.Any.slices_Sort_int_none Try_so none 0 w) (fun blk off cap zs w h1 h2 h3 => Go.Proofs.Any.slices_Sort_int Try_so blk off cap zs w h1 h2 h3) hH hi hB hA hr
theorem Try_mixed : Try.prog.follows .mixedOrders = true := by kernel_rfl

instance : GoT cal_Span := GoT.of (β := Int × Int) fun x => (x.from_, x.to_)

instance : Flat cal_Span := ⟨fun {A w A1 w1 cs x} h => Flat.flat (α := Int × Int) (x := (x.from_, x.to_)) (A := A) (w := w) h⟩

theorem El_cal_Span_ {A : Nat → Prop} {w : World} {b off : Nat} {x : cal_Span} (h : El A w b off x) : El (α := Int × Int) A w b off (x.from_, x.to_) := h

theorem El_cal_Span_0 {A : Nat → Prop} {w : World} {b off : Nat} {x : cal_Span} (h : El A w b off x) : El A w b (off + 0) x.from_ := El.fst (El_cal_Span_ h)

theorem El_cal_Span_1 {A : Nat → Prop} {w : World} {b off : Nat} {x : cal_Span} (h : El A w b off x) : El A w b (off + 1) x.to_ := El.snd (El_cal_Span_ h)

theorem El_cal_Span {A : Nat → Prop} {w : World} {b off : Nat} {x : cal_Span} (h : El A w b off x) : At w b off [.int .i64 x.from_, .int .i64 x.to_] ∧ True := by
  obtain ⟨h1, h2, cs, h3, h4⟩ := h
  obtain ⟨_, _, rfl, rfl, rfl⟩ := h3
  exact ⟨h4, trivial⟩

instance : GoT cal_edge := GoT.of (β := Int × Int × Int) fun x => (x.at_, x.list_, x.by_)

instance : Flat cal_edge := ⟨fun {A w A1 w1 cs x} h => Flat.flat (α := Int × Int × Int) (x := (x.at_, x.list_, x.by_)) (A := A) (w := w) h⟩

theorem El_cal_edge_ {A : Nat → Prop} {w : World} {b off : Nat} {x : cal_edge} (h : El A w b off x) : El (α := Int × Int × Int) A w b off (x.at_, x.list_, x.by_) := h

theorem El_cal_edge_0 {A : Nat → Prop} {w : World} {b off : Nat} {x : cal_edge} (h : El A w b off x) : El A w b (off + 0) x.at_ := El.fst (El_cal_edge_ h)

theorem El_cal_edge_1 {A : Nat → Prop} {w : World} {b off : Nat} {x : cal_edge} (h : El A w b off x) : El A w b (off + 1) x.list_ := El.fst (El.snd (El_cal_edge_ h))

theorem El_cal_edge_2 {A : Nat → Prop} {w : World} {b off : Nat} {x : cal_edge} (h : El A w b off x) : El A w b (off + 2) x.by_ := El.snd (El.snd (El_cal_edge_ h))

theorem El_cal_edge {A : Nat → Prop} {w : World} {b off : Nat} {x : cal_edge} (h : El A w b off x) : At w b off [.int .i64 x.at_, .int .i64 x.list_, .int .i64 x.by_] ∧ True := by
  obtain ⟨h1, h2, cs, h3, h4⟩ := h
  obtain ⟨_, _, rfl, rfl, ⟨_, _, rfl, rfl, rfl⟩⟩ := h3
  exact ⟨h4, trivial⟩

theorem Rep_cal_edge {A : Nat → Prop} {w : World} {cs : List Value} {x : cal_edge} (h : GoT.rep A w cs x) : cs = [.int .i64 x.at_, .int .i64 x.list_, .int .i64 x.by_] ∧ True := by
  obtain ⟨_, _, rfl, rfl, ⟨_, _, rfl, rfl, rfl⟩⟩ := h
  exact ⟨rfl, trivial⟩

set_option maxRecDepth 4000 in
set_option maxHeartbeats 4000000 in
theorem cal_within_c (w : World) (n : Int) (low : Int) (high : Int) : Ret Try.prog 38 #[.int .i64 n, .int .i64 low, .int .i64 high] w fun v w' => v = .bool (cal_within n low high) ∧ w = w' := by
  generalize hm : cal_within n low high = r
  unfold cal_within at hm
  refine enter Try.func38 rfl Try.ntmps38 rfl ?_
  refine C_seq ?_
  refine C_region ?_
  refine V_y (Y_assign rfl) rfl rfl rfl ?_
  refine V_to (fun _ _ => rfl) ?_
  refine C_seq ?_
  refine C_region ?_
  refine V_y (Y_move rfl) rfl rfl rfl ?_
  refine V_y (Y_move rfl) rfl rfl rfl ?_
  refine V_y (Y_geq rfl rfl) rfl rfl rfl ?_
  refine V_y (Y_move rfl) rfl rfl rfl ?_
  refine V_cut 4 (fun _ : Unit => [(14, .bool ((decide (low ≤ n)) && (decide (n ≤ high))))]) (fun _ w' => w = w') ?_ ?_
  · simp only [List.take, List.drop]
    rcases Bool.eq_false_or_eq_true (decide (low ≤ n)) with hc1 | hc1
    · refine V_ge rfl rfl rfl hc1 ?_
      refine V_y (Y_move rfl) rfl rfl rfl ?_
      refine V_ge rfl rfl rfl hc1 ?_
      refine V_y (Y_move rfl) rfl rfl rfl ?_
      refine V_ge rfl rfl rfl hc1 ?_
      refine V_y (Y_leq rfl rfl) rfl rfl rfl ?_
      refine V_y (Y_pick_te rfl hc1 rfl) rfl rfl rfl ?_
      exact V_end fun a ha => ⟨(), ha.sub ⟨(by rw [hc1]; rfl), trivial⟩, rfl⟩
    · refine V_gn rfl rfl rfl hc1 rfl rfl rfl ?_
      refine V_gn rfl rfl rfl hc1 rfl rfl rfl ?_
      refine V_gn rfl rfl rfl hc1 rfl rfl rfl ?_
      refine V_y (Y_pick_fe rfl hc1 rfl) rfl rfl rfl ?_
      exact V_end fun a ha => ⟨(), ha.sub ⟨(by rw [hc1]; rfl), trivial⟩, rfl⟩
  simp only [List.take, List.drop]
  rintro _ _ rfl
  refine V_y (Y_assign rfl) rfl rfl rfl ?_
  refine V_to (fun _ _ => rfl) ?_
  obtain rfl := hm
  refine C_ret ?_
  try simp only [↓inBlock_ret, ↓then_ret]
  exact retQ rfl (Res.one Try.results38 rfl) ⟨rfl, rfl⟩

set_option maxRecDepth 4000 in
set_option maxHeartbeats 4000000 in
theorem cal_checkSpan_c (w : World) {A : Nat → Prop} (hA : ∀ b, w.heap.size ≤ b → A b) (s : cal_Span) {r : Int} (hm : cal_checkSpan s = some r) : Ret Try.prog 28 #[.agg #[.int .i64 s.from_, .int .i64 s.to_]] w fun v w' => v = .int .i64 r ∧ Kp Dw w w' := by
  unfold cal_checkSpan at hm
  refine enter Try.func28 rfl Try.ntmps28 rfl ?_
  have hA0 := hA
  have hB := Nat.le_refl w.heap.size
  have hK : Tr Dw w.heap.size A w A w := Tr.refl (Dw := Dw) hA
  have hH : Hp w.heap.size A w [] := Hp.nil
  refine C_seq ?_
  refine C_region ?_
  refine V_box rfl rfl ?_
  intro b1 w2 h3
  have hk5 := h3.kp (Dw := Dw)
  have h4 : El (α := cal_Span) A w2 b1 0 s := h3.el hA ⟨[.int .i64 s.from_], _, rfl, rfl, rfl⟩
  have ht6 := Kp.tr (Dw := Dw) hk5 hA hB
  replace hH := Hp.kp (Dw := Dw) hH hk5
  replace hK := Tr.trans (Dw := Dw) hK ht6
  replace hB := Nat.le_trans hB ht6.ex.size
  replace hA := ht6.new
  refine V_y (Y_assign rfl) rfl rfl rfl ?_
  refine V_to (fun _ _ => rfl) ?_
  refine C_seq ?_
  refine C_block ?_
  refine C_seq ?_
  refine C_region ?_
  have h7 := El_cal_Span_0 h4
  refine V_y (Y_fieldAddr Try.underlying39 rfl Try.sizeOf3 (by decide) rfl) rfl rfl rfl ?_
  refine V_y (Y_load (El.int h7) Try.isAgg3 rfl) rfl rfl rfl ?_
  refine V_call Try.call38 rfl rfl rfl rfl (cal_within_c w2 s.from_ 0 3000000) ?_
  rintro _ _ ⟨rfl, rfl⟩
  refine V_y (Y_not rfl) rfl rfl rfl ?_
  refine V_y (Y_move rfl) rfl rfl rfl ?_
  refine V_cut 5 (fun _ : Unit => [(1, .pointer (some ⟨b1, 0, none⟩)), (13, .bool ((!(cal_within s.from_ 0 3000000)) || (!(cal_within s.to_ 0 3000001))))]) (fun _ w' => w2 = w') ?_ ?_
  · simp only [List.take, List.drop]
    rcases Bool.eq_false_or_eq_true (!(cal_within s.from_ 0 3000000)) with hc8 | hc8
    · refine V_gn rfl rfl rfl hc8 rfl rfl rfl ?_
      refine V_gn rfl rfl rfl hc8 rfl rfl rfl ?_
      refine V_gn rfl rfl rfl hc8 rfl rfl rfl ?_
      refine V_gn rfl rfl rfl hc8 rfl rfl rfl ?_
      refine V_y (Y_pick_te rfl hc8 rfl) rfl rfl rfl ?_
      exact V_end fun a ha => ⟨(), ha.sub ⟨rfl, (by rw [hc8]; rfl), trivial⟩, rfl⟩
    · refine V_ge rfl rfl rfl hc8 ?_
      have h10 := El_cal_Span_1 h4
      refine V_y (Y_fieldAddr Try.underlying39 rfl Try.sizeOf3 (by decide) rfl) rfl rfl rfl ?_
      refine V_ge rfl rfl rfl hc8 ?_
      refine V_y (Y_load (El.int h10) Try.isAgg3 rfl) rfl rfl rfl ?_
      refine V_ge rfl rfl rfl hc8 ?_
      refine V_call Try.call38 rfl rfl rfl rfl (cal_within_c w2 s.to_ 0 3000001) ?_
      rintro _ _ ⟨rfl, rfl⟩
      refine V_ge rfl rfl rfl hc8 ?_
      refine V_y (Y_not rfl) rfl rfl rfl ?_
      refine V_y (Y_pick_fe rfl hc8 rfl) rfl rfl rfl ?_
      exact V_end fun a ha => ⟨(), ha.sub ⟨rfl, (by rw [hc8]; rfl), trivial⟩, rfl⟩
  simp only [List.take, List.drop]
  rintro _ _ rfl
  refine V_y (Y_assign rfl) rfl rfl rfl ?_
  refine V_to (fun _ _ => rfl) ?_
  refine C_cond rfl (fun hc11 => ?_) (fun hc11 => ?_)
  · rw [if_pos hc11] at hm
    refine C_seq ?_
    refine C_region ?_
    refine V_y (Y_assign rfl) rfl rfl rfl ?_
    refine V_to (fun _ _ => rfl) ?_
    obtain rfl := Option.some.inj hm
    refine C_ret ?_
    try simp only [↓inBlock_ret, ↓then_ret]
    exact retQ rfl (Res.one Try.results28 rfl) ⟨rfl, hK.kp⟩
  · rw [if_neg (nt hc11)] at hm
    refine C_seq ?_
    refine C_region ?_
    have h12 := El_cal_Span_1 h4
    refine V_y (Y_fieldAddr Try.underlying39 rfl Try.sizeOf3 (by decide) rfl) rfl rfl rfl ?_
    refine V_y (Y_load (El.int h12) Try.isAgg3 rfl) rfl rfl rfl ?_
    have h13 := El_cal_Span_0 h4
    refine V_y (Y_fieldAddr Try.underlying39 rfl Try.sizeOf3 (by decide) rfl) rfl rfl rfl ?_
    refine V_y (Y_load (El.int h13) Try.isAgg3 rfl) rfl rfl rfl ?_
    refine V_y (Y_leq rfl rfl) rfl rfl rfl ?_
    refine V_y (Y_assign rfl) rfl rfl rfl ?_
    refine V_to (fun _ _ => rfl) ?_
    refine C_cond rfl (fun hc14 => ?_) (fun hc14 => ?_)
    · rw [if_pos hc14] at hm
      refine C_seq ?_
      refine C_region ?_
      refine V_y (Y_assign rfl) rfl rfl rfl ?_
      refine V_to (fun _ _ => rfl) ?_
      obtain rfl := Option.some.inj hm
      refine C_ret ?_
      try simp only [↓inBlock_ret, ↓then_ret]
      exact retQ rfl (Res.one Try.results28 rfl) ⟨rfl, hK.kp⟩
    · rw [if_neg (nt hc14)] at hm
      refine C_skip_to (fun _ _ => rfl) ?_
      refine C_seq ?_
      refine C_region ?_
      refine V_y (Y_assign rfl) rfl rfl rfl ?_
      refine V_to (fun _ _ => rfl) ?_
      obtain rfl := Option.some.inj hm
      refine C_ret ?_
      try simp only [↓inBlock_ret, ↓then_ret]
      exact retQ rfl (Res.one Try.results28 rfl) ⟨rfl, hK.kp⟩

set_option maxRecDepth 4000 in
set_option maxHeartbeats 4000000 in
theorem cmp_isNaN_int_c (w : World) (x : Int) : Ret Try.prog 37 #[.int .i64 x] w fun v w' => v = .bool (cmp_isNaN_int x) ∧ w = w' := by
  generalize hm : cmp_isNaN_int x = r
  unfold cmp_isNaN_int at hm
  refine enter Try.func37 rfl Try.ntmps37 rfl ?_
  refine C_seq ?_
  refine C_region ?_
  refine V_y (Y_assign rfl) rfl rfl rfl ?_
  refine V_to (fun _ _ => rfl) ?_
  refine C_seq ?_
  refine C_region ?_
  refine V_y (Y_move rfl) rfl rfl rfl ?_
  refine V_y (Y_move rfl) rfl rfl rfl ?_
  refine V_y (Y_neq rfl rfl) rfl rfl rfl ?_
  refine V_y (Y_assign rfl) rfl rfl rfl ?_
  refine V_to (fun _ _ => rfl) ?_
  obtain rfl := hm
  refine C_ret ?_
  try simp only [↓inBlock_ret, ↓then_ret]
  exact retQ rfl (Res.one Try.results37 rfl) ⟨rfl, rfl⟩

set_option maxRecDepth 4000 in
set_option maxHeartbeats 4000000 in
theorem cmp_Compare_int_c (w : World) (x : Int) (y : Int) : Ret Try.prog 21 #[.int .i64 x, .int .i64 y] w fun v w' => v = .int .i64 (cmp_Compare_int x y) ∧ w = w' := by
  generalize hm : cmp_Compare_int x y = r
  unfold cmp_Compare_int at hm
  refine enter Try.func21 rfl Try.ntmps21 rfl ?_
  refine C_seq ?_
  refine C_region ?_
  refine V_y (Y_assign rfl) rfl rfl rfl ?_
  refine V_to (fun _ _ => rfl) ?_
  refine C_seq ?_
  refine C_region ?_
  refine V_y (Y_move rfl) rfl rfl rfl ?_
  refine V_call Try.call37 rfl rfl rfl rfl (cmp_isNaN_int_c w x) ?_
  rintro _ _ ⟨rfl, rfl⟩
  refine V_y (Y_assign rfl) rfl rfl rfl ?_
  refine V_to (fun _ _ => rfl) ?_
  refine C_seq ?_
  refine C_region ?_
  refine V_y (Y_move rfl) rfl rfl rfl ?_
  refine V_call Try.call37 rfl rfl rfl rfl (cmp_isNaN_int_c w y) ?_
  rintro _ _ ⟨rfl, rfl⟩
  refine V_y (Y_assign rfl) rfl rfl rfl ?_
  refine V_to (fun _ _ => rfl) ?_
  refine C_seq ?_
  refine C_seq ?_
  refine C_region ?_
  refine V_y (Y_move rfl) rfl rfl rfl ?_
  refine V_to (fun _ _ => rfl) ?_
  refine C_cond rfl (fun hc1 => ?_) (fun hc1 => ?_)
  · rw [if_pos hc1] at hm
    refine C_seq ?_
    refine C_seq ?_
    refine C_region ?_
    refine V_y (Y_move rfl) rfl rfl rfl ?_
    refine V_to (fun _ _ => rfl) ?_
    refine C_cond rfl (fun hc2 => ?_) (fun hc2 => ?_)
    · rw [if_pos hc2] at hm
      refine C_seq ?_
      refine C_region ?_
      refine V_y (Y_assign rfl) rfl rfl rfl ?_
      refine V_to (fun _ _ => rfl) ?_
      obtain rfl := hm
      refine C_ret ?_
      try simp only [↓inBlock_ret, ↓then_ret]
      exact retQ rfl (Res.one Try.results21 rfl) ⟨rfl, rfl⟩
    · rw [if_neg (nt hc2)] at hm
      refine C_skip_to (fun _ _ => rfl) ?_
      refine C_seq ?_
      refine C_region ?_
      refine V_y (Y_assign rfl) rfl rfl rfl ?_
      refine V_to (fun _ _ => rfl) ?_
      obtain rfl := hm
      refine C_ret ?_
      try simp only [↓inBlock_ret, ↓then_ret]
      exact retQ rfl (Res.one Try.results21 rfl) ⟨rfl, rfl⟩
  · rw [if_neg (nt hc1)] at hm
    refine C_skip_to (fun _ _ => rfl) ?_
    refine C_seq ?_
    refine C_seq ?_
    refine C_region ?_
    refine V_y (Y_move rfl) rfl rfl rfl ?_
    refine V_to (fun _ _ => rfl) ?_
    refine C_cond rfl (fun hc3 => ?_) (fun hc3 => ?_)
    · rw [if_pos hc3] at hm
      refine C_seq ?_
      refine C_region ?_
      refine V_y (Y_assign rfl) rfl rfl rfl ?_
      refine V_to (fun _ _ => rfl) ?_
      obtain rfl := hm
      refine C_ret ?_
      try simp only [↓inBlock_ret, ↓then_ret]
      exact retQ rfl (Res.one Try.results21 rfl) ⟨rfl, rfl⟩
    · rw [if_neg (nt hc3)] at hm
      refine C_skip_to (fun _ _ => rfl) ?_
      refine C_seq ?_
      refine C_seq ?_
      refine C_region ?_
      refine V_y (Y_move rfl) rfl rfl rfl ?_
      refine V_y (Y_move rfl) rfl rfl rfl ?_
      refine V_y (Y_lss rfl rfl) rfl rfl rfl ?_
      refine V_to (fun _ _ => rfl) ?_
      refine C_cond rfl (fun hc4 => ?_) (fun hc4 => ?_)
      · rw [if_pos hc4] at hm
        refine C_seq ?_
        refine C_region ?_
        refine V_y (Y_assign rfl) rfl rfl rfl ?_
        refine V_to (fun _ _ => rfl) ?_
        obtain rfl := hm
        refine C_ret ?_
        try simp only [↓inBlock_ret, ↓then_ret]
        exact retQ rfl (Res.one Try.results21 rfl) ⟨rfl, rfl⟩
      · rw [if_neg (nt hc4)] at hm
        refine C_skip_to (fun _ _ => rfl) ?_
        refine C_seq ?_
        refine C_seq ?_
        refine C_region ?_
        refine V_y (Y_move rfl) rfl rfl rfl ?_
        refine V_y (Y_move rfl) rfl rfl rfl ?_
        refine V_y (Y_gtr rfl rfl) rfl rfl rfl ?_
        refine V_to (fun _ _ => rfl) ?_
        refine C_cond rfl (fun hc5 => ?_) (fun hc5 => ?_)
        · rw [if_pos hc5] at hm
          refine C_seq ?_
          refine C_region ?_
          refine V_y (Y_assign rfl) rfl rfl rfl ?_
          refine V_to (fun _ _ => rfl) ?_
          obtain rfl := hm
          refine C_ret ?_
          try simp only [↓inBlock_ret, ↓then_ret]
          exact retQ rfl (Res.one Try.results21 rfl) ⟨rfl, rfl⟩
        · rw [if_neg (nt hc5)] at hm
          refine C_skip_to (fun _ _ => rfl) ?_
          refine C_seq ?_
          refine C_region ?_
          refine V_y (Y_assign rfl) rfl rfl rfl ?_
          refine V_to (fun _ _ => rfl) ?_
          obtain rfl := hm
          refine C_ret ?_
          try simp only [↓inBlock_ret, ↓then_ret]
          exact retQ rfl (Res.one Try.results21 rfl) ⟨rfl, rfl⟩

set_option maxRecDepth 4000 in
set_option maxHeartbeats 4000000 in
theorem cal_swept_1_c (w : World) {A : Nat → Prop} (hA : ∀ b, w.heap.size ≤ b → A b) (a_ : cal_edge) (b : cal_edge) {r : Int} (hm : cal_swept_1 a_ b = some r) : Ret Try.prog 40 #[.agg #[.int .i64 a_.at_, .int .i64 a_.list_, .int .i64 a_.by_], .agg #[.int .i64 b.at_, .int .i64 b.list_, .int .i64 b.by_]] w fun v w' => v = .int .i64 r ∧ Kp Dw w w' := by
  unfold cal_swept_1 at hm
  refine enter Try.func40 rfl Try.ntmps40 rfl ?_
  have hA0 := hA
  have hB := Nat.le_refl w.heap.size
  have hK : Tr Dw w.heap.size A w A w := Tr.refl (Dw := Dw) hA
  have hH : Hp w.heap.size A w [] := Hp.nil
  refine C_seq ?_
  refine C_region ?_
  refine V_box rfl rfl ?_
  intro b1 w2 h3
  have hk5 := h3.kp (Dw := Dw)
  have h4 : El (α := cal_edge) A w2 b1 0 a_ := h3.el hA ⟨[.int .i64 a_.at_], _, rfl, rfl, ⟨[.int .i64 a_.list_], _, rfl, rfl, rfl⟩⟩
  have ht6 := Kp.tr (Dw := Dw) hk5 hA hB
  replace hH := Hp.kp (Dw := Dw) hH hk5
  replace hK := Tr.trans (Dw := Dw) hK ht6
  replace hB := Nat.le_trans hB ht6.ex.size
  replace hA := ht6.new
  refine V_box rfl rfl ?_
  intro b7 w9 h10
  have hk12 := h10.kp (Dw := Dw)
  have h11 : El (α := cal_edge) A w9 b7 0 b := h10.el hA ⟨[.int .i64 b.at_], _, rfl, rfl, ⟨[.int .i64 b.list_], _, rfl, rfl, rfl⟩⟩
  have ht13 := Kp.tr (Dw := Dw) hk12 hA hB
  replace hH := Hp.kp (Dw := Dw) hH hk12
  replace h4 := El.tr (Dw := Dw) h4 ht13
  replace hK := Tr.trans (Dw := Dw) hK ht13
  replace hB := Nat.le_trans hB ht13.ex.size
  replace hA := ht13.new
  refine V_y (Y_assign rfl) rfl rfl rfl ?_
  refine V_to (fun _ _ => rfl) ?_
  refine C_seq ?_
  refine C_region ?_
  have h14 := El_cal_edge_0 h4
  refine V_y (Y_fieldAddr Try.underlying73 rfl Try.sizeOf3 (by decide) rfl) rfl rfl rfl ?_
  refine V_y (Y_load (El.int h14) Try.isAgg3 rfl) rfl rfl rfl ?_
  have h15 := El_cal_edge_0 h11
  refine V_y (Y_fieldAddr Try.underlying73 rfl Try.sizeOf3 (by decide) rfl) rfl rfl rfl ?_
  refine V_y (Y_load (El.int h15) Try.isAgg3 rfl) rfl rfl rfl ?_
  refine V_call Try.call21 rfl rfl rfl rfl (cmp_Compare_int_c w9 a_.at_ b.at_) ?_
  rintro _ _ ⟨rfl, rfl⟩
  refine V_y (Y_assign rfl) rfl rfl rfl ?_
  refine V_to (fun _ _ => rfl) ?_
  obtain rfl := Option.some.inj hm
  refine C_ret ?_
  try simp only [↓inBlock_ret, ↓then_ret]
  exact retQ rfl (Res.one Try.results40 rfl) ⟨rfl, hK.kp⟩

def Try_sf39_ren : Go.Shelf.Ren := ⟨fun | 6 => 39 | 14 => 57 | 15 => 36 | 20 => 65 | 21 => 66 | 22 => 67 | 23 => 68 | 24 => 69 | 25 => 70 | 26 => 71 | 27 => 72 | 28 => 55 | 29 => 56 | 46 => 83 | 47 => 61 | 48 => 62 | 49 => 84 | 50 => 85 | 57 => 89 | n => n, fun | 0 => 0 | 1 => 1 | 2 => 2 | 3 => 3 | 4 => 4 | 5 => 5 | 6 => 6 | 7 => 7 | 8 => 8 | 9 => 9 | 10 => 10 | 11 => 11 | 12 => 12 | 13 => 13 | 14 => 14 | 15 => 15 | 16 => 16 | 17 => 17 | 18 => 18 | 19 => 19 | 20 => 20 | 21 => 21 | 22 => 71 | 23 => 74 | 24 => 73 | 25 => 75 | 27 => 45 | 29 => 56 | 30 => 76 | 37 => 92 | 38 => 69 | 39 => 70 | 42 => 66 | 44 => 101 | 45 => 81 | 46 => 82 | 47 => 102 | 48 => 103 | 49 => 104 | 50 => 86 | 51 => 105 | 52 => 88 | 53 => 89 | 54 => 90 | 55 => 91 | 66 => 95 | 67 => 96 | 68 => 97 | 69 => 115 | 70 => 99 | 71 => 116 | 76 => 112 | 77 => 113 | 78 => 119 | 81 => 121 | 82 => 122 | 83 => 123 | 84 => 124 | 85 => 125 | 86 => 126 | 87 => 127 | 88 => 128 | 89 => 129 | 90 => 130 | 91 => 131 | 92 => 132 | 93 => 133 | 94 => 134 | 95 => 135 | 96 => 136 | n => n, fun n => n⟩
theorem Try_sf39_lay : Go.Proofs.SlLaysF0.n6 Try.prog Try_sf39_ren := {
  mixed := by kernel_rfl,
  f6 := ⟨ "slices.SortFunc[[]porterslodge/cal.edge,porterslodge/cal.edge]", by kernel_rfl, Try.func39.trans (congrArg some (by kernel_rfl))⟩,
  f14 := ⟨ "slices.pdqsortCmpFunc[porterslodge/cal.edge]", by kernel_rfl, Try.func57.trans (congrArg some (by kernel_rfl))⟩,
  f15 := Try.func36.trans (congrArg some (by kernel_rfl)),
  f20 := ⟨ "slices.insertionSortCmpFunc[porterslodge/cal.edge]", by kernel_rfl, Try.func65.trans (congrArg some (by kernel_rfl))⟩,
  f21 := ⟨ "slices.heapSortCmpFunc[porterslodge/cal.edge]", by kernel_rfl, Try.func66.trans (congrArg some (by kernel_rfl))⟩,
  f22 := ⟨ "slices.breakPatternsCmpFunc[porterslodge/cal.edge]", by kernel_rfl, Try.func67.trans (congrArg some (by kernel_rfl))⟩,
  f23 := ⟨ "slices.choosePivotCmpFunc[porterslodge/cal.edge]", by kernel_rfl, Try.func68.trans (congrArg some (by kernel_rfl))⟩,
  f24 := ⟨ "slices.reverseRangeCmpFunc[porterslodge/cal.edge]", by kernel_rfl, Try.func69.trans (congrArg some (by kernel_rfl))⟩,
  f25 := ⟨ "slices.partialInsertionSortCmpFunc[porterslodge/cal.edge]", by kernel_rfl, Try.func70.trans (congrArg some (by kernel_rfl))⟩,
  f26 := ⟨ "slices.partitionEqualCmpFunc[porterslodge/cal.edge]", by kernel_rfl, Try.func71.trans (congrArg some (by kernel_rfl))⟩,
  f27 := ⟨ "slices.partitionCmpFunc[porterslodge/cal.edge]", by kernel_rfl, Try.func72.trans (congrArg some (by kernel_rfl))⟩,
  f28 := Try.func55.trans (congrArg some (by kernel_rfl)),
  f29 := Try.func56.trans (congrArg some (by kernel_rfl)),
  f46 := ⟨ "slices.siftDownCmpFunc[porterslodge/cal.edge]", by kernel_rfl, Try.func83.trans (congrArg some (by kernel_rfl))⟩,
  f47 := Try.func61.trans (congrArg some (by kernel_rfl)),
  f48 := Try.func62.trans (congrArg some (by kernel_rfl)),
  f49 := ⟨ "slices.medianAdjacentCmpFunc[porterslodge/cal.edge]", by kernel_rfl, Try.func84.trans (congrArg some (by kernel_rfl))⟩,
  f50 := ⟨ "slices.medianCmpFunc[porterslodge/cal.edge]", by kernel_rfl, Try.func85.trans (congrArg some (by kernel_rfl))⟩,
  f57 := ⟨ "slices.order2CmpFunc[porterslodge/cal.edge]", by kernel_rfl, Try.func89.trans (congrArg some (by kernel_rfl))⟩,
  t0 := Try.underlying0,
  a0 := Try.isAgg0,
  z0 := Try.sizeOf0,
  v0 := Try.zeroValue0,
  t3 := Try.underlying3,
  a3 := Try.isAgg3,
  z3 := Try.sizeOf3,
  v3 := Try.zeroValue3,
  t4 := Try.underlying4,
  a4 := Try.isAgg4,
  z4 := Try.sizeOf4,
  v4 := Try.zeroValue4,
  t5 := Try.underlying5,
  a5 := Try.isAgg5,
  z5 := Try.sizeOf5,
  v5 := Try.zeroValue5,
  t9 := Try.underlying9,
  a9 := Try.isAgg9,
  z9 := Try.sizeOf9,
  v9 := Try.zeroValue9,
  t22 := Try.underlying71,
  a22 := Try.isAgg71,
  z22 := Try.sizeOf71,
  v22 := Try.zeroValue71,
  t25 := Try.underlying75,
  a25 := Try.isAgg75,
  z25 := Try.sizeOf75,
  v25 := Try.zeroValue75,
  t39 := Try.underlying70,
  a39 := Try.isAgg70,
  z39 := Try.sizeOf70,
  v39 := Try.zeroValue70,
  t45 := Try.underlying81,
  a45 := Try.isAgg81,
  z45 := Try.sizeOf81,
  v45 := Try.zeroValue81,
  t46 := Try.underlying82,
  a46 := Try.isAgg82,
  z46 := Try.sizeOf82,
  v46 := Try.zeroValue82,
  t50 := Try.underlying86,
  a50 := Try.isAgg86,
  z50 := Try.sizeOf86,
  v50 := Try.zeroValue86,
  t53 := Try.underlying89,
  a53 := Try.isAgg89,
  z53 := Try.sizeOf89,
  v53 := Try.zeroValue89,
  t55 := Try.underlying91,
  a55 := Try.isAgg91,
  z55 := Try.sizeOf91,
  v55 := Try.zeroValue91,
  t66 := Try.underlying95,
  a66 := Try.isAgg95,
  z66 := Try.sizeOf95,
  v66 := Try.zeroValue95,
  t70 := Try.underlying99,
  a70 := Try.isAgg99,
  z70 := Try.sizeOf99,
  v70 := Try.zeroValue99,
  t76 := Try.underlying112,
  a76 := Try.isAgg112,
  z76 := Try.sizeOf112,
  v76 := Try.zeroValue112,
  t77 := Try.underlying113,
  a77 := Try.isAgg113,
  z77 := Try.sizeOf113,
  v77 := Try.zeroValue113 }
theorem Try_sf39 {cmp : cal_edge → cal_edge → Int} {enc : cal_edge → List Value} {l r : List cal_edge} (hrep : ∀ (A : Nat → Prop) (w : World) (cs : List Value) (x : cal_edge), GoT.rep A w cs x → cs = enc x) (hback : ∀ (A : Nat → Prop) (w : World) (x : cal_edge), GoT.rep A w (enc x) x) {g : FuncId} {cb : Array Value} {B : Nat} {A : Nat → Prop} {w : World} {L : List Ob} {i : Nat} {v : Value} (eg : ∀ (args : Array Value) (w : World), (callFunc g args).run Try.prog w = .ok (.enter g args) w) (hcl : ∀ (w1 : World), Tr True B A w A w1 → (∀ b, w1.heap.size ≤ b → A b) → ∀ (x y : cal_edge), Ret Try.prog g (#[.agg (enc x).toArray, .agg (enc y).toArray] ++ cb) w1 fun v w' => v = .int .i64 (cmp x y) ∧ Kp True w1 w') (hH : Hp B A w L) (hi : L[i]? = some (obS (α := cal_edge) 73 v l)) (hB : B ≤ w.heap.size) (hA : ∀ b, w.heap.size ≤ b → A b) (hr : sortFuncP cmp l = some r) : Ret Try.prog 39 #[v, .func (.func g) #[] cb] w fun u w' => u = .tuple #[] ∧ Hp B A w' (L.set i (obS (α := cal_edge) 73 v r)) ∧ Tr Dw B A w A w' :=
  Hp.sortFuncP (Dw := Dw) hrep hback (fun p c w => Go.Proofs.AnyF.slices_SortFunc_none Try_sf39_lay p c _ w) (fun hk hone hO blk off cap d w hc hh hb hs => Go.Proofs.AnyQ.slices_SortFunc_eq Try_sf39_lay _ Try.isAgg73 Try.sizeOf73 enc hk hone cmp hO g cb blk off cap d w eg hc hh hb hs) hcl hH hi hB hA hr

set_option maxRecDepth 4000 in
set_option maxHeartbeats 4000000 in
theorem cal_swept_c (w : World) {A : Nat → Prop} (hA : ∀ b, w.heap.size ≤ b → A b) (lists : (List (List cal_Span))) (v_lists : Value) (h_lists : Sl A w v_lists lists) (wanted : (List Int) → Option Bool) (wanted_f : FuncId) (wanted_a wanted_c : Array Value) (wanted_call : ∀ (args : Array Value) (w : World), (callFunc wanted_f args).run Try.prog w = .ok (.enter wanted_f args) w) (wanted_spec : ∀ (w1 : World) (A1 : Nat → Prop), Tr Dw w.heap.size A w A1 w1 → (∀ b, w1.heap.size ≤ b → A1 b) → ∀ (A2 : Nat → Prop) (y0 : (List Int)) (v1 : Value) (h2 : Sl A2 w1 v1 y0) (r : Bool), wanted y0 = some r → Ret Try.prog wanted_f (wanted_a ++ #[v1] ++ wanted_c) w1 fun v w' => v = .bool r ∧ Kp Dw w1 w') {r : (List cal_Span)} (hm : cal_swept lists wanted = some r) : Ret Try.prog 29 #[v_lists, .func (.func wanted_f) wanted_a wanted_c] w fun v w' => ∃ s0, v = s0 ∧ Ownd 39 w w' s0 r ∧ Kp Dw w w' := by
  unfold cal_swept at hm
  refine enter Try.func29 rfl Try.ntmps29 rfl ?_
  have hA0 := hA
  have hB := Nat.le_refl w.heap.size
  have hK : Tr Dw w.heap.size A w A w := Tr.refl (Dw := Dw) hA
  have hH : Hp w.heap.size A w [] := Hp.nil
  refine C_seq ?_
  refine C_region ?_
  refine V_y (Y_assign rfl) rfl rfl rfl ?_
  refine V_to (fun _ _ => rfl) ?_
  refine C_seq ?_
  refine C_region ?_
  refine V_y (Y_assign rfl) rfl rfl rfl ?_
  refine V_to (fun _ _ => rfl) ?_
  refine C_seq ?_
  refine C_seq ?_
  refine C_region ?_
  refine V_y (Y_move rfl) rfl rfl rfl ?_
  refine V_y (Y_lenSl h_lists rfl Try.underlying62 rfl) rfl rfl rfl ?_
  refine V_y (Y_move rfl) rfl rfl rfl ?_
  refine V_to (fun _ _ => rfl) ?_
  replace hH : Hp w.heap.size A w (obS (α := cal_edge) 73 (.slice none 0 0) ([] : (List cal_edge)) :: []) := Hp.addNil (α := cal_edge) (e := 73) hH
  have hn27 := Sl.le h_lists
  obtain ⟨o3, ho3, hm⟩ := Option.bind_eq_some_iff.1 hm
  refine C_cutG (ι := ((List cal_edge) × Value × (Nat → Prop))) (fun ⟨s4, v10, A12⟩ => [(0, v_lists), (1, .func (.func wanted_f) wanted_a wanted_c), (5, v10)]) (fun ⟨s4, v10, A12⟩ => fun w' => o3 = .fin s4 ∧ Hp w.heap.size A12 w' (obS (α := cal_edge) 73 v10 s4 :: []) ∧ Tr Dw w.heap.size A w A12 w') ?_ ?_
  · refine C_block ?_
    refine C_range ho3 (fun k6 s14 a w' => ∃ i : (Value × (Nat → Prop)), Has ⟨130, [], none⟩ a ([(0, v_lists), (1, .func (.func wanted_f) wanted_a wanted_c), (5, i.1), (16, v_lists), (17, .int .i64 (lists.length : Int)), (18, .int .i64 (k6 : Int))]) ∧ Hp w.heap.size i.2 w' (obS (α := cal_edge) 73 i.1 s14 :: []) ∧ Tr Dw w.heap.size A w i.2 w') (fun a ha => ⟨(.slice none 0 0, A), ha.sub ⟨rfl, rfl, rfl, rfl, rfl, rfl, trivial⟩, ⟨hH, Tr.refl (Dw := Dw) hA⟩⟩) ?_
    rintro K k6 s14 a w15 ⟨⟨v16, A18⟩, ha106, hH19, hr5⟩ hle23 K26 h25
    refine C_of ?_ ha106
    replace h_lists := Sl.tr (Dw := Dw) h_lists hr5
    replace hK := Tr.trans (Dw := Dw) hK hr5
    replace hB := Nat.le_trans hB hr5.ex.size
    replace hA := hr5.new
    replace hH : Hp w.heap.size A18 w15 (obS (α := cal_edge) 73 v16 s14 :: []) := hH19
    refine C_seq (C_region (V_y (Y_lss rfl rfl) rfl rfl rfl (V_to (fun _ _ => rfl) ?_)))
    refine C_seq ?_
    refine C_cond rfl (fun hc28 => ?_) (fun hc28 => ?_)
    · have hlt24 := lt_of_dec hc28
      obtain ⟨x20, h21, h22⟩ := K26 hlt24
      refine C_skip_to (fun _ _ => rfl) ?_
      refine C_seq ?_
      obtain ⟨s30, ho29, h21⟩ := Option.bind_eq_some_iff.1 h21
      refine C_cutG (ι := (Value × (Nat → Prop))) (fun ⟨v32, A37⟩ => [(0, v_lists), (1, .func (.func wanted_f) wanted_a wanted_c), (5, v32), (16, v_lists), (17, .int .i64 (lists.length : Int)), (18, .int .i64 (k6 : Int))]) (fun ⟨v32, A37⟩ => fun w' => Hp w.heap.size A37 w' (obS (α := cal_edge) 73 v32 s30 :: []) ∧ Tr Dw w.heap.size A18 w15 A37 w') ?_ ?_
      · have hr31 : Tr Dw w.heap.size A18 w15 A18 w15 := Tr.refl (Dw := Dw) hA
        refine C_block ?_
        refine C_seq ?_
        refine C_region ?_
        refine V_y (Y_move rfl) rfl rfl rfl ?_
        obtain ⟨x39, hx39, ho29⟩ := Option.bind_eq_some_iff.1 ho29
        refine V_indexAddr h_lists hx39 Try.underlying62 Try.sizeOf34 rfl rfl rfl ?_
        intro b40 o41 h42
        obtain ⟨v43, h44, h45⟩ := El.list h42
        refine V_y (Y_load h44 Try.isAgg34 rfl) rfl rfl rfl ?_
        refine V_y (Y_assign rfl) rfl rfl rfl ?_
        refine V_y (Y_assign rfl) rfl rfl rfl ?_
        refine V_to (fun _ _ => rfl) ?_
        refine C_seq ?_
        refine C_region ?_
        refine V_y (Y_move rfl) rfl rfl rfl ?_
        refine V_y (Y_lenSl h45 rfl Try.underlying34 rfl) rfl rfl rfl ?_
        refine V_y (Y_move rfl) rfl rfl rfl ?_
        refine V_to (fun _ _ => rfl) ?_
        have hn70 := Sl.le h45
        obtain ⟨o46, ho46, ho29⟩ := Option.bind_eq_some_iff.1 ho29
        refine C_cutG (ι := ((List cal_edge) × Value × (Nat → Prop))) (fun ⟨s47, v53, A55⟩ => [(0, v_lists), (1, .func (.func wanted_f) wanted_a wanted_c), (5, v53), (16, v_lists), (17, .int .i64 (lists.length : Int)), (18, .int .i64 (k6 : Int))]) (fun ⟨s47, v53, A55⟩ => fun w' => o46 = .fin s47 ∧ Hp w.heap.size A55 w' (obS (α := cal_edge) 73 v53 s47 :: []) ∧ Tr Dw w.heap.size A18 w15 A55 w') ?_ ?_
        · refine C_block ?_
          refine C_range ho46 (fun k49 s57 a w' => ∃ i : (Value × (Nat → Prop)), Has ⟨130, [], none⟩ a ([(0, v_lists), (1, .func (.func wanted_f) wanted_a wanted_c), (5, i.1), (6, .int .i64 (k6 : Int)), (16, v_lists), (17, .int .i64 (lists.length : Int)), (18, .int .i64 (k6 : Int)), (23, v43), (24, .int .i64 (x39.length : Int)), (25, .int .i64 (k49 : Int))]) ∧ Hp w.heap.size i.2 w' (obS (α := cal_edge) 73 i.1 s57 :: []) ∧ Tr Dw w.heap.size A18 w15 i.2 w') (fun a ha => ⟨(v16, A18), ha.sub ⟨rfl, rfl, rfl, rfl, rfl, rfl, rfl, rfl, rfl, rfl, trivial⟩, ⟨hH, Tr.refl (Dw := Dw) hA⟩⟩) ?_
          rintro K k49 s57 a w58 ⟨⟨v59, A61⟩, ha102, hH62, hr48⟩ hle66 K69 h68
          refine C_of ?_ ha102
          replace h_lists := Sl.tr (Dw := Dw) h_lists hr48
          replace h45 := Sl.tr (Dw := Dw) h45 hr48
          replace hK := Tr.trans (Dw := Dw) hK hr48
          replace hr5 := Tr.trans (Dw := Dw) hr5 hr48
          replace hr31 := Tr.trans (Dw := Dw) hr31 hr48
          replace hB := Nat.le_trans hB hr48.ex.size
          replace hA := hr48.new
          replace hH : Hp w.heap.size A61 w58 (obS (α := cal_edge) 73 v59 s57 :: []) := hH62
          refine C_seq (C_region (V_y (Y_lss rfl rfl) rfl rfl rfl (V_to (fun _ _ => rfl) ?_)))
          refine C_seq ?_
          refine C_cond rfl (fun hc71 => ?_) (fun hc71 => ?_)
          · have hlt67 := lt_of_dec hc71
            obtain ⟨x63, h64, h65⟩ := K69 hlt67
            refine C_skip_to (fun _ _ => rfl) ?_
            refine C_seq ?_
            refine C_block ?_
            refine C_seq ?_
            refine C_region ?_
            obtain ⟨x72, hx72, h64⟩ := Option.bind_eq_some_iff.1 h64
            refine V_indexAddr h45 hx72 Try.underlying34 Try.sizeOf39 rfl rfl rfl ?_
            intro b73 o74 h75
            obtain ⟨h76, _⟩ := El_cal_Span h75
            refine V_y (Y_loadA h76 Try.isAgg39 Try.sizeOf39 rfl) rfl rfl rfl ?_
            refine V_alloc Try.zeroValue39 rfl ?_
            intro b77 w78 h79
            refine V_storeNew h79 Try.sizeOf39 rfl rfl rfl rfl (by exact (List.forall_mem_cons.2 ⟨rfl, (List.forall_mem_cons.2 ⟨rfl, (fun _ h => nomatch h)⟩)⟩)) ?_
            intro w80 h81
            have hk83 := h81.kp (Dw := Dw)
            have h82 : El (α := cal_Span) A61 w80 b77 0 x72 := h81.el hA ⟨[.int .i64 x72.from_], _, rfl, rfl, rfl⟩
            have ht84 := Kp.tr (Dw := Dw) hk83 hA hB
            replace hH := Hp.kp (Dw := Dw) hH hk83
            replace h_lists := Sl.tr (Dw := Dw) h_lists ht84
            replace h45 := Sl.tr (Dw := Dw) h45 ht84
            replace h75 := El.tr (Dw := Dw) h75 ht84
            replace hK := Tr.trans (Dw := Dw) hK ht84
            replace hr5 := Tr.trans (Dw := Dw) hr5 ht84
            replace hr31 := Tr.trans (Dw := Dw) hr31 ht84
            replace hr48 := Tr.trans (Dw := Dw) hr48 ht84
            replace hB := Nat.le_trans hB ht84.ex.size
            replace hA := ht84.new
            refine V_to (fun _ _ => rfl) ?_
            refine C_region ?_
            refine V_y (Y_move rfl) rfl rfl rfl ?_
            have h85 := El_cal_Span_0 h82
            refine V_y (Y_fieldAddr Try.underlying39 rfl Try.sizeOf3 (by decide) rfl) rfl rfl rfl ?_
            refine V_y (Y_load (El.int h85) Try.isAgg3 rfl) rfl rfl rfl ?_
            refine V_y (Y_move rfl) rfl rfl rfl ?_
            refine V_y (Y_build Try.underlying73 Try.zeroValue73 (Try_places73 _ Try.underlying73) rfl (by with_unfolding_all rfl)) rfl rfl rfl ?_
            have h86 := El_cal_Span_1 h82
            refine V_y (Y_fieldAddr Try.underlying39 rfl Try.sizeOf3 (by decide) rfl) rfl rfl rfl ?_
            refine V_y (Y_load (El.int h86) Try.isAgg3 rfl) rfl rfl rfl ?_
            refine V_y (Y_move rfl) rfl rfl rfl ?_
            refine V_y (Y_build Try.underlying73 Try.zeroValue73 (Try_places73 _ Try.underlying73) rfl (by with_unfolding_all rfl)) rfl rfl rfl ?_
            refine V_buildSlice (Dw := Dw) (cells := #[.int .i64 x72.from_, .int .i64 (k6 : Int), .int .i64 1, .int .i64 x72.to_, .int .i64 (k6 : Int), .int .i64 (-1)]) (l := ([(⟨x72.from_, (k6 : Int), 1⟩ : cal_edge), (⟨x72.to_, (k6 : Int), (-1)⟩ : cal_edge)] : List cal_edge)) (len := 2) Try.underlying71 Try.sizeOf73 Try.zeroValue73 rfl (by generalize ((k6 : Int) : Int) = z91; generalize ((-1) : Int) = z92; kernel_rfl) (show (2 * 3 : Nat) ≠ 0 by decide) (show (2 * 3 : Nat) ≤ 2 ^ 24 by decide) hA ⟨[.int .i64 x72.from_, .int .i64 (k6 : Int), .int .i64 1], _, rfl, ⟨[.int .i64 x72.from_], _, rfl, rfl, ⟨[.int .i64 (k6 : Int)], _, rfl, rfl, rfl⟩⟩, ⟨[.int .i64 x72.to_, .int .i64 (k6 : Int), .int .i64 (-1)], _, rfl, ⟨[.int .i64 x72.to_], _, rfl, rfl, ⟨[.int .i64 (k6 : Int)], _, rfl, rfl, rfl⟩⟩, rfl⟩⟩ rfl rfl ?_
            intro v87 w88 hk90 h89
            have ht93 := Kp.tr (Dw := Dw) hk90 hA hB
            replace hH := Hp.kp (Dw := Dw) hH hk90
            replace h_lists := Sl.tr (Dw := Dw) h_lists ht93
            replace h45 := Sl.tr (Dw := Dw) h45 ht93
            replace h82 := El.tr (Dw := Dw) h82 ht93
            replace h85 := El.tr (Dw := Dw) h85 ht93
            replace h86 := El.tr (Dw := Dw) h86 ht93
            replace hK := Tr.trans (Dw := Dw) hK ht93
            replace hr5 := Tr.trans (Dw := Dw) hr5 ht93
            replace hr31 := Tr.trans (Dw := Dw) hr31 ht93
            replace hr48 := Tr.trans (Dw := Dw) hr48 ht93
            replace hB := Nat.le_trans hB ht93.ex.size
            replace hA := ht93.new
            obtain ⟨x94, hx94, h64⟩ := Option.bind_eq_some_iff.1 h64
            refine V_appendH (Dw := Dw) (e := 73) (v := v59) (l := s57) (ti := Try.t73) (bytes := 24) (lim := 5864062014805) hH (i := 0) rfl h89 hx94 Try.underlying71 Try_info73 rfl rfl rfl rfl (by decide) (by decide) (by decide) hB hA rfl rfl rfl ?_
            intro v95 w96 A97 hH98 ht99
            replace h_lists := Sl.tr (Dw := Dw) h_lists ht99
            replace h45 := Sl.tr (Dw := Dw) h45 ht99
            replace h82 := El.tr (Dw := Dw) h82 ht99
            replace h85 := El.tr (Dw := Dw) h85 ht99
            replace h86 := El.tr (Dw := Dw) h86 ht99
            replace h89 := Sl.tr (Dw := Dw) h89 ht99
            replace hK := Tr.trans (Dw := Dw) hK ht99
            replace hr5 := Tr.trans (Dw := Dw) hr5 ht99
            replace hr31 := Tr.trans (Dw := Dw) hr31 ht99
            replace hr48 := Tr.trans (Dw := Dw) hr48 ht99
            replace hB := Nat.le_trans hB ht99.ex.size
            replace hA := ht99.new
            replace hH : Hp w.heap.size A97 w96 (obS (α := cal_edge) 73 v95 x94 :: []) := hH98
            refine V_y (Y_assign rfl) rfl rfl rfl ?_
            refine V_to (fun _ _ => rfl) ?_
            refine C_region ?_
            refine V_y (Y_addI rfl rfl) rfl rfl rfl ?_
            refine V_y (Y_move rfl) rfl rfl rfl ?_
            obtain rfl := Option.some.inj h64
            refine V_end (fun a ha100 => ?_)
            exact ⟨x94, hlt67, h65, ⟨(v95, A97), ha100.sub ⟨rfl, rfl, rfl, rfl, rfl, rfl, rfl, rfl, rfl, (congrArg (fun z => some (Value.int .i64 z)) (w64_succ hlt67 hn70)), trivial⟩, ⟨hH, hr48⟩⟩⟩
          · refine C_exit (fun a ha101 => ?_)
            exact ⟨(s57, v59, A61), ha101.sub ⟨rfl, rfl, rfl, rfl, rfl, rfl, trivial⟩, ⟨(h68 (eq_of_dec hle66 hc71)).symm, hH, hr48⟩⟩
        rintro ⟨s47, v53, A55⟩ w50 ⟨rfl, hH56, hk51⟩ a ha52
        rw [Lp.andThen_fin] at ho29
        replace h_lists := Sl.tr (Dw := Dw) h_lists hk51
        replace hK := Tr.trans (Dw := Dw) hK hk51
        replace hr5 := Tr.trans (Dw := Dw) hr5 hk51
        replace hr31 := Tr.trans (Dw := Dw) hr31 hk51
        replace hB := Nat.le_trans hB hk51.ex.size
        replace hA := hk51.new
        replace hH : Hp w.heap.size A55 w50 (obS (α := cal_edge) 73 v53 s47 :: []) := hH56
        obtain rfl := Option.some.inj ho29
        exact ⟨(v53, A55), ha52.sub ⟨rfl, rfl, rfl, rfl, rfl, rfl, trivial⟩, ⟨hH, hr31⟩⟩
      rintro ⟨v32, A37⟩ w34 ⟨hH38, hk35⟩ a ha36
      replace h_lists := Sl.tr (Dw := Dw) h_lists hk35
      replace hK := Tr.trans (Dw := Dw) hK hk35
      replace hr5 := Tr.trans (Dw := Dw) hr5 hk35
      replace hB := Nat.le_trans hB hk35.ex.size
      replace hA := hk35.new
      replace hH : Hp w.heap.size A37 w34 (obS (α := cal_edge) 73 v32 s30 :: []) := hH38
      refine C_at (n := ⟨130, [], none⟩) (fun _ _ => rfl) ?_ ha36
      refine C_region ?_
      refine V_y (Y_addI rfl rfl) rfl rfl rfl ?_
      refine V_y (Y_move rfl) rfl rfl rfl ?_
      obtain rfl := Option.some.inj h21
      refine V_end (fun a ha104 => ?_)
      exact ⟨s30, hlt24, h22, ⟨(v32, A37), ha104.sub ⟨rfl, rfl, rfl, rfl, rfl, (congrArg (fun z => some (Value.int .i64 z)) (w64_succ hlt24 hn27)), trivial⟩, ⟨hH, hr5⟩⟩⟩
    · refine C_exit (fun a ha105 => ?_)
      exact ⟨(s14, v16, A18), ha105.sub ⟨rfl, rfl, rfl, trivial⟩, ⟨(h25 (eq_of_dec hle23 hc28)).symm, hH, hr5⟩⟩
  rintro ⟨s4, v10, A12⟩ w7 ⟨rfl, hH13, hk8⟩ a ha9
  rw [Lp.andThen_fin] at hm
  replace h_lists := Sl.tr (Dw := Dw) h_lists hk8
  replace hK := Tr.trans (Dw := Dw) hK hk8
  replace hB := Nat.le_trans hB hk8.ex.size
  replace hA := hk8.new
  replace hH : Hp w.heap.size A12 w7 (obS (α := cal_edge) 73 v10 s4 :: []) := hH13
  refine C_at (n := ⟨130, [], none⟩) (fun _ _ => rfl) ?_ ha9
  refine C_seq ?_
  refine C_region ?_
  refine V_y (Y_move rfl) rfl rfl rfl ?_
  obtain ⟨x107, hx107, hm⟩ := Option.bind_eq_some_iff.1 hm
  refine V_call Try.call39 rfl rfl rfl rfl (Try_sf39 (Dw := Dw) (enc := fun x => [.int .i64 x.at_, .int .i64 x.list_, .int .i64 x.by_]) (fun _ _ _ _ h => by obtain ⟨rfl, _⟩ := Rep_cal_edge h; rfl) (fun _ _ x => ⟨[.int .i64 x.at_], _, rfl, rfl, ⟨[.int .i64 x.list_], _, rfl, rfl, rfl⟩⟩) Try.call40 (fun w1 ht1 hA1 x y => (cal_swept_1_c (Dw := True) w1 hA1 x y (r := (cal_swept_1 x y).getD 0) rfl).mono fun _ _ h => ⟨h.1, h.2⟩) hH (i := 0) rfl hB hA hx107) ?_
  rintro _ w108 ⟨rfl, hH109, ht110⟩
  replace h_lists := Sl.tr (Dw := Dw) h_lists ht110
  replace hK := Tr.trans (Dw := Dw) hK ht110
  replace hB := Nat.le_trans hB ht110.ex.size
  replace hA := ht110.new
  replace hH : Hp w.heap.size A12 w108 (obS (α := cal_edge) 73 v10 x107 :: []) := hH109
  refine V_to (fun _ _ => rfl) ?_
  refine C_seq ?_
  refine C_region ?_
  refine V_y (Y_move rfl) rfl rfl rfl ?_
  refine V_y (Y_lenSl h_lists rfl Try.underlying62 rfl) rfl rfl rfl ?_
  obtain ⟨x111, hx111, hm⟩ := Option.bind_eq_some_iff.1 hm
  refine V_makeH (Dw := Dw) (e := 3) (ti := Try.t3) hH hx111 (fun _ _ => rfl) Try.underlying45 Try_info3 rfl rfl rfl (by decide) (by decide) hB hA rfl rfl rfl ?_
  intro v112 w113 A114 hH115 ht116
  replace h_lists := Sl.tr (Dw := Dw) h_lists ht116
  replace hK := Tr.trans (Dw := Dw) hK ht116
  replace hB := Nat.le_trans hB ht116.ex.size
  replace hA := ht116.new
  replace hH : Hp w.heap.size A114 w113 (obS (α := Int) 3 v112 x111 :: obS (α := cal_edge) 73 v10 x107 :: []) := hH115
  refine V_y (Y_assign rfl) rfl rfl rfl ?_
  refine V_to (fun _ _ => rfl) ?_
  refine C_seq ?_
  refine C_region ?_
  refine V_y (Y_assign rfl) rfl rfl rfl ?_
  refine V_to (fun _ _ => rfl) ?_
  refine C_seq ?_
  refine C_seq ?_
  refine C_region ?_
  refine V_y (Y_assign rfl) rfl rfl rfl ?_
  refine V_to (fun _ _ => rfl) ?_
  replace hH : Hp w.heap.size A114 w113 (obS (α := cal_Span) 39 (.slice none 0 0) ([] : (List cal_Span)) :: obS (α := Int) 3 v112 x111 :: obS (α := cal_edge) 73 v10 x107 :: []) := Hp.addNil (α := cal_Span) (e := 39) hH
  obtain ⟨o117, ho117, hm⟩ := Option.bind_eq_some_iff.1 hm
  refine C_cutG (ι := (((List Int) × (List cal_Span) × Int) × Value × Value × (Nat → Prop))) (fun ⟨s118, v124, v126, A128⟩ => [(11, v126)]) (fun ⟨s118, v124, v126, A128⟩ => fun w' => o117 = .fin s118 ∧ Hp w.heap.size A128 w' (obS (α := cal_Span) 39 v126 s118.2.1 :: obS (α := Int) 3 v124 s118.1 :: obS (α := cal_edge) 73 v10 x107 :: []) ∧ Tr Dw w.heap.size A114 w113 A128 w') ?_ ?_
  · refine C_block ?_
    refine C_while ho117 (fun s130 a w' => ∃ i : (Value × Value × (Nat → Prop)), Has ⟨130, [], none⟩ a ([(1, .func (.func wanted_f) wanted_a wanted_c), (5, v10), (10, i.1), (11, i.2.1), (12, .int .i64 s130.2.2)]) ∧ Hp w.heap.size i.2.2 w' (obS (α := cal_Span) 39 i.2.1 s130.2.1 :: obS (α := Int) 3 i.1 s130.1 :: obS (α := cal_edge) 73 v10 x107 :: []) ∧ Tr Dw w.heap.size A114 w113 i.2.2 w') (fun a ha => ⟨(v112, .slice none 0 0, A114), ha.sub ⟨rfl, rfl, rfl, rfl, rfl, trivial⟩, ⟨hH, Tr.refl (Dw := Dw) hA⟩⟩) ?_
    rintro K s130 a w131 ⟨⟨v132, v134, A136⟩, ha311, hH137, hr119⟩ K144
    refine C_of ?_ ha311
    replace hK := Tr.trans (Dw := Dw) hK hr119
    replace hB := Nat.le_trans hB hr119.ex.size
    replace hA := hr119.new
    replace hH : Hp w.heap.size A136 w131 (obS (α := cal_Span) 39 v134 s130.2.1 :: obS (α := Int) 3 v132 s130.1 :: obS (α := cal_edge) 73 v10 x107 :: []) := hH137
    obtain ⟨x138, h139, h140⟩ := K144
    refine C_seq ?_
    refine C_seq ?_
    refine C_region ?_
    refine V_y (Y_move rfl) rfl rfl rfl ?_
    refine V_y (Y_move rfl) rfl rfl rfl ?_
    refine V_y (Y_lenSl (Hp.any (α := cal_edge) (e := 73) (v := v10) (l := x107) hH (i := 2) rfl) rfl Try.underlying71 rfl) rfl rfl rfl ?_
    refine V_y (Y_lss rfl rfl) rfl rfl rfl ?_
    refine V_to (fun _ _ => rfl) ?_
    refine C_cond rfl (fun hc145 => ?_) (fun hc145 => ?_)
    · rw [if_pos hc145] at h139
      refine C_skip_to (fun _ _ => rfl) ?_
      obtain ⟨s147, ho146, h139⟩ := Option.bind_eq_some_iff.1 h139
      refine C_cutG (ι := (Value × Value × (Nat → Prop))) (fun ⟨v149, v151, A156⟩ => [(1, .func (.func wanted_f) wanted_a wanted_c), (5, v10), (10, v149), (11, v151), (12, .int .i64 s147.2.2)]) (fun ⟨v149, v151, A156⟩ => fun w' => Hp w.heap.size A156 w' (obS (α := cal_Span) 39 v151 s147.2.1 :: obS (α := Int) 3 v149 s147.1 :: obS (α := cal_edge) 73 v10 x107 :: []) ∧ Tr Dw w.heap.size A136 w131 A156 w') ?_ ?_
      · have hr148 : Tr Dw w.heap.size A136 w131 A136 w131 := Tr.refl (Dw := Dw) hA
        refine C_block ?_
        refine C_seq ?_
        refine C_region ?_
        refine V_y (Y_move rfl) rfl rfl rfl ?_
        refine V_y (Y_move rfl) rfl rfl rfl ?_
        obtain ⟨x158, hx158, ho146⟩ := Option.bind_eq_some_iff.1 ho146
        refine V_indexAddrH (α := cal_edge) (e := 73) (v := v10) (l := x107) hH (i := 2) rfl hx158 Try.underlying71 Try.sizeOf73 rfl rfl rfl ?_
        intro b159 o160 h161 hl162
        have h163 := El_cal_edge_0 h161
        refine V_y (Y_fieldAddr Try.underlying73 rfl Try.sizeOf3 (by decide) rfl) rfl rfl rfl ?_
        refine V_y (Y_load (El.int h163) Try.isAgg3 rfl) rfl rfl rfl ?_
        refine V_y (Y_assign rfl) rfl rfl rfl ?_
        refine V_to (fun _ _ => rfl) ?_
        refine C_seq ?_
        obtain ⟨o164, ho164, ho146⟩ := Option.bind_eq_some_iff.1 ho146
        refine C_cutG (ι := (((List Int) × Int) × Value × (Nat → Prop))) (fun ⟨s165, v171, A173⟩ => [(1, .func (.func wanted_f) wanted_a wanted_c), (5, v10), (10, v171), (11, v134), (12, .int .i64 s165.2), (13, .int .i64 x158.at_)]) (fun ⟨s165, v171, A173⟩ => fun w' => o164 = .fin s165 ∧ Hp w.heap.size A173 w' (obS (α := cal_Span) 39 v134 s130.2.1 :: obS (α := Int) 3 v171 s165.1 :: obS (α := cal_edge) 73 v10 x107 :: []) ∧ Tr Dw w.heap.size A136 w131 A173 w') ?_ ?_
        · refine C_block ?_
          refine C_while ho164 (fun s175 a w' => ∃ i : (Value × (Nat → Prop)), Has ⟨130, [], none⟩ a ([(1, .func (.func wanted_f) wanted_a wanted_c), (5, v10), (10, i.1), (11, v134), (12, .int .i64 s175.2), (13, .int .i64 x158.at_)]) ∧ Hp w.heap.size i.2 w' (obS (α := cal_Span) 39 v134 s130.2.1 :: obS (α := Int) 3 i.1 s175.1 :: obS (α := cal_edge) 73 v10 x107 :: []) ∧ Tr Dw w.heap.size A136 w131 i.2 w') (fun a ha => ⟨(v132, A136), ha.sub ⟨rfl, rfl, rfl, rfl, rfl, rfl, trivial⟩, ⟨hH, Tr.refl (Dw := Dw) hA⟩⟩) ?_
          rintro K s175 a w176 ⟨⟨v177, A179⟩, ha226, hH180, hr166⟩ K187
          refine C_of ?_ ha226
          replace hK := Tr.trans (Dw := Dw) hK hr166
          replace hr119 := Tr.trans (Dw := Dw) hr119 hr166
          replace hr148 := Tr.trans (Dw := Dw) hr148 hr166
          replace hB := Nat.le_trans hB hr166.ex.size
          replace hA := hr166.new
          replace hH : Hp w.heap.size A179 w176 (obS (α := cal_Span) 39 v134 s130.2.1 :: obS (α := Int) 3 v177 s175.1 :: obS (α := cal_edge) 73 v10 x107 :: []) := hH180
          obtain ⟨x181, h182, h183⟩ := K187
          refine C_seq ?_
          refine C_seq ?_
          refine C_region ?_
          refine V_y (Y_move rfl) rfl rfl rfl ?_
          refine V_y (Y_move rfl) rfl rfl rfl ?_
          refine V_y (Y_lenSl (Hp.any (α := cal_edge) (e := 73) (v := v10) (l := x107) hH (i := 2) rfl) rfl Try.underlying71 rfl) rfl rfl rfl ?_
          refine V_y (Y_lss rfl rfl) rfl rfl rfl ?_
          refine V_y (Y_move rfl) rfl rfl rfl ?_
          obtain ⟨s189, hs189, h182⟩ := Option.bind_eq_some_iff.1 h182
          refine V_cut 8 (fun _ : Unit => [(1, .func (.func wanted_f) wanted_a wanted_c), (5, v10), (10, v177), (11, v134), (12, .int .i64 s175.2), (13, .int .i64 x158.at_), (68, .bool s189)]) (fun _ w' => w176 = w') ?_ ?_
          · simp only [List.take, List.drop]
            rcases Bool.eq_false_or_eq_true (decide (s175.2 < (x107.length : Int))) with hc188 | hc188
            · rw [if_pos hc188] at hs189
              refine V_ge rfl rfl rfl hc188 ?_
              refine V_y (Y_move rfl) rfl rfl rfl ?_
              refine V_ge rfl rfl rfl hc188 ?_
              refine V_y (Y_move rfl) rfl rfl rfl ?_
              refine V_ge rfl rfl rfl hc188 ?_
              obtain ⟨x190, hx190, hs189⟩ := Option.bind_eq_some_iff.1 hs189
              refine V_indexAddrH (α := cal_edge) (e := 73) (v := v10) (l := x107) hH (i := 2) rfl hx190 Try.underlying71 Try.sizeOf73 rfl rfl rfl ?_
              intro b191 o192 h193 hl194
              refine V_ge rfl rfl rfl hc188 ?_
              have h195 := El_cal_edge_0 h193
              refine V_y (Y_fieldAddr Try.underlying73 rfl Try.sizeOf3 (by decide) rfl) rfl rfl rfl ?_
              refine V_ge rfl rfl rfl hc188 ?_
              refine V_y (Y_load (El.int h195) Try.isAgg3 rfl) rfl rfl rfl ?_
              refine V_ge rfl rfl rfl hc188 ?_
              refine V_y (Y_move rfl) rfl rfl rfl ?_
              refine V_ge rfl rfl rfl hc188 ?_
              refine V_y (Y_eql rfl rfl) rfl rfl rfl ?_
              refine V_y (Y_pick_te rfl hc188 rfl) rfl rfl rfl ?_
              obtain rfl := Option.some.inj hs189
              exact V_end fun a ha => ⟨(), ha.sub ⟨rfl, rfl, rfl, rfl, rfl, rfl, rfl, trivial⟩, rfl⟩
            · rw [if_neg (nt hc188)] at hs189
              refine V_gn rfl rfl rfl hc188 rfl rfl rfl ?_
              refine V_gn rfl rfl rfl hc188 rfl rfl rfl ?_
              refine V_gn rfl rfl rfl hc188 rfl rfl rfl ?_
              refine V_gn rfl rfl rfl hc188 rfl rfl rfl ?_
              refine V_gn rfl rfl rfl hc188 rfl rfl rfl ?_
              refine V_gn rfl rfl rfl hc188 rfl rfl rfl ?_
              refine V_gn rfl rfl rfl hc188 rfl rfl rfl ?_
              refine V_y (Y_pick_fe rfl hc188 rfl) rfl rfl rfl ?_
              obtain rfl := Option.some.inj hs189
              exact V_end fun a ha => ⟨(), ha.sub ⟨rfl, rfl, rfl, rfl, rfl, rfl, rfl, trivial⟩, rfl⟩
          simp only [List.take, List.drop]
          rintro _ _ rfl
          refine V_to (fun _ _ => rfl) ?_
          refine C_cond rfl (fun hc196 => ?_) (fun hc196 => ?_)
          · rw [if_pos hc196] at h182
            refine C_skip_to (fun _ _ => rfl) ?_
            refine C_block ?_
            refine C_seq ?_
            refine C_region_qt (Dw := Dw) 15 Try_mixed (by kernel_rfl) ?_
            simp only [List.take, List.drop]
            refine VQ_y (fun w' hw' => Y_move rfl) rfl rfl rfl ?_
            refine VQ_y (fun w' hw' => Y_move rfl) rfl rfl rfl ?_
            refine VQ_y (fun w' hw' => Y_move rfl) rfl rfl rfl ?_
            obtain ⟨x197, hx197, h182⟩ := Option.bind_eq_some_iff.1 h182
            refine VQ_indexAddrH (α := cal_edge) (e := 73) (v := v10) (l := x107) hH (i := 2) rfl hx197 Try.underlying71 Try.sizeOf73 rfl rfl rfl ?_
            intro b198 o199 h200 hl201
            have h202 := El_cal_edge_1 h200
            refine VQ_y (fun w' hw' => Y_fieldAddr Try.underlying73 rfl Try.sizeOf3 (by decide) rfl) rfl rfl rfl ?_
            refine VQ_y (fun w' hw' => Y_load (El.int (El.kp (Dw := Dw) h202 hw')) Try.isAgg3 rfl) rfl rfl rfl ?_
            obtain ⟨x203, hx203, h182⟩ := Option.bind_eq_some_iff.1 h182
            refine VQ_indexAddrH (α := Int) (e := 3) (v := v177) (l := s175.1) hH (i := 1) rfl hx203 Try.underlying45 Try.sizeOf3 rfl rfl rfl ?_
            intro b204 o205 h206 hl207
            refine VQ_y (fun w' hw' => Y_load (El.int (El.kp (Dw := Dw) h206 hw')) Try.isAgg3 rfl) rfl rfl rfl ?_
            refine VQ_y (fun w' hw' => Y_move rfl) rfl rfl rfl ?_
            refine VQ_y (fun w' hw' => Y_move rfl) rfl rfl rfl ?_
            refine VQ_indexAddrH (α := cal_edge) (e := 73) (v := v10) (l := x107) hH (i := 2) rfl hx197 Try.underlying71 Try.sizeOf73 rfl rfl rfl ?_
            intro b208 o209 h210 hl211
            have h212 := El_cal_edge_2 h210
            refine VQ_y (fun w' hw' => Y_fieldAddr Try.underlying73 rfl Try.sizeOf3 (by decide) rfl) rfl rfl rfl ?_
            refine VQ_y (fun w' hw' => Y_load (El.int (El.kp (Dw := Dw) h212 hw')) Try.isAgg3 rfl) rfl rfl rfl ?_
            refine VQ_y (fun w' hw' => Y_addI rfl rfl) rfl rfl rfl ?_
            refine VQ_indexAddrH (α := Int) (e := 3) (v := v177) (l := s175.1) hH (i := 1) rfl hx203 Try.underlying45 Try.sizeOf3 rfl rfl rfl ?_
            intro b213 o214 h215 hl216
            refine VQ_tail (fun w217 hk218 => ?_)
            try simp only [List.take, List.drop]
            have ht219 := Kp.tr (Dw := Dw) hk218 hA hB
            replace hH := Hp.kp (Dw := Dw) hH hk218
            replace h200 := El.kp (Dw := Dw) h200 hk218
            replace h202 := El.kp (Dw := Dw) h202 hk218
            replace h206 := El.kp (Dw := Dw) h206 hk218
            replace h210 := El.kp (Dw := Dw) h210 hk218
            replace h212 := El.kp (Dw := Dw) h212 hk218
            replace h215 := El.kp (Dw := Dw) h215 hk218
            replace hK := Tr.trans (Dw := Dw) hK ht219
            replace hr119 := Tr.trans (Dw := Dw) hr119 ht219
            replace hr148 := Tr.trans (Dw := Dw) hr148 ht219
            replace hr166 := Tr.trans (Dw := Dw) hr166 ht219
            replace hB := Nat.le_trans hB ht219.ex.size
            replace hA := ht219.new
            obtain ⟨x220, hx220, h182⟩ := Option.bind_eq_some_iff.1 h182
            refine V_storeH (Dw := Dw) (α := Int) (e := 3) (v := v177) (l := s175.1) hH (i := 1) rfl hl216 hx220 rfl Try.sizeOf3 rfl hB hA rfl rfl ?_
            intro w221 hH222 ht223
            replace hK := Tr.trans (Dw := Dw) hK ht223
            replace hr119 := Tr.trans (Dw := Dw) hr119 ht223
            replace hr148 := Tr.trans (Dw := Dw) hr148 ht223
            replace hr166 := Tr.trans (Dw := Dw) hr166 ht223
            replace hB := Nat.le_trans hB ht223.ex.size
            replace hA := ht223.new
            replace hH : Hp w.heap.size A179 w221 (obS (α := cal_Span) 39 v134 s130.2.1 :: obS (α := Int) 3 v177 x220 :: obS (α := cal_edge) 73 v10 x107 :: []) := hH222
            refine V_to (fun _ _ => rfl) ?_
            refine C_region ?_
            refine V_y (Y_move rfl) rfl rfl rfl ?_
            refine V_y (Y_addI rfl rfl) rfl rfl rfl ?_
            refine V_y (Y_assign rfl) rfl rfl rfl ?_
            obtain rfl := Option.some.inj h182
            refine V_end (fun a ha224 => ?_)
            exact ⟨(x220, w64 (s175.2 + 1)), h183, ⟨(v177, A179), ha224.sub ⟨rfl, rfl, rfl, rfl, rfl, rfl, trivial⟩, ⟨hH, hr166⟩⟩⟩
          · rw [if_neg (nt hc196)] at h182
            obtain rfl := Option.some.inj h182
            refine C_exit (fun a ha225 => ?_)
            exact ⟨((s175.1, s175.2), v177, A179), ha225.sub ⟨rfl, rfl, rfl, rfl, rfl, rfl, trivial⟩, ⟨h183.symm, hH, hr166⟩⟩
        rintro ⟨s165, v171, A173⟩ w168 ⟨rfl, hH174, hk169⟩ a ha170
        rw [Lp.andThen_fin] at ho146
        replace hK := Tr.trans (Dw := Dw) hK hk169
        replace hr119 := Tr.trans (Dw := Dw) hr119 hk169
        replace hr148 := Tr.trans (Dw := Dw) hr148 hk169
        replace hB := Nat.le_trans hB hk169.ex.size
        replace hA := hk169.new
        replace hH : Hp w.heap.size A173 w168 (obS (α := cal_Span) 39 v134 s130.2.1 :: obS (α := Int) 3 v171 s165.1 :: obS (α := cal_edge) 73 v10 x107 :: []) := hH174
        refine C_at (n := ⟨130, [], none⟩) (fun _ _ => rfl) ?_ ha170
        refine C_seq ?_
        refine C_seq ?_
        obtain ⟨s228, ho227, ho146⟩ := Option.bind_eq_some_iff.1 ho146
        refine C_cutG (ι := (Nat → Prop)) (fun (A233 : (Nat → Prop)) => [(1, .func (.func wanted_f) wanted_a wanted_c), (5, v10), (10, v171), (11, v134), (12, .int .i64 s165.2), (13, .int .i64 x158.at_), (95, .bool s228)]) (fun (A233 : (Nat → Prop)) => fun w' => Hp w.heap.size A233 w' (obS (α := cal_Span) 39 v134 s130.2.1 :: obS (α := Int) 3 v171 s165.1 :: obS (α := cal_edge) 73 v10 x107 :: []) ∧ Tr Dw w.heap.size A173 w168 A233 w') ?_ ?_
        · have hr229 : Tr Dw w.heap.size A173 w168 A173 w168 := Tr.refl (Dw := Dw) hA
          refine C_region ?_
          refine V_y (Y_move rfl) rfl rfl rfl ?_
          refine V_y (Y_move rfl) rfl rfl rfl ?_
          refine V_y (Y_lenSl (Hp.any (α := cal_edge) (e := 73) (v := v10) (l := x107) hH (i := 2) rfl) rfl Try.underlying71 rfl) rfl rfl rfl ?_
          refine V_y (Y_eql rfl rfl) rfl rfl rfl ?_
          refine V_y (Y_move rfl) rfl rfl rfl ?_
          rcases Bool.eq_false_or_eq_true (s165.2 == (x107.length : Int)) with hc235 | hc235
          · rw [if_pos hc235] at ho227
            refine V_gn rfl rfl rfl hc235 rfl rfl rfl ?_
            refine V_gn rfl rfl rfl hc235 rfl rfl rfl ?_
            refine V_gn rfl rfl rfl hc235 rfl rfl rfl ?_
            refine V_gn rfl rfl rfl hc235 rfl rfl rfl ?_
            refine V_y (Y_pick_te rfl hc235 rfl) rfl rfl rfl ?_
            obtain rfl := Option.some.inj ho227
            refine V_end (fun a ha236 => ?_)
            exact ⟨A173, ha236.sub ⟨rfl, rfl, rfl, rfl, rfl, rfl, rfl, trivial⟩, ⟨hH, hr229⟩⟩
          · rw [if_neg (nt hc235)] at ho227
            refine V_ge rfl rfl rfl hc235 ?_
            refine V_y (Y_move rfl) rfl rfl rfl ?_
            refine V_ge rfl rfl rfl hc235 ?_
            refine V_y (Y_move rfl) rfl rfl rfl ?_
            refine V_ge rfl rfl rfl hc235 ?_
            obtain ⟨x237, hx237, ho227⟩ := Option.bind_eq_some_iff.1 ho227
            refine V_call wanted_call rfl rfl rfl rfl (wanted_spec w168 _ hK hA (fun _ => True) s165.1 v171 (Hp.any (α := Int) (e := 3) (v := v171) (l := s165.1) hH (i := 1) rfl) _ hx237) ?_
            rintro _ w238 ⟨rfl, hk239⟩
            have ht240 := Kp.tr (Dw := Dw) hk239 hA hB
            replace hH := Hp.kp (Dw := Dw) hH hk239
            replace hK := Tr.trans (Dw := Dw) hK ht240
            replace hr119 := Tr.trans (Dw := Dw) hr119 ht240
            replace hr148 := Tr.trans (Dw := Dw) hr148 ht240
            replace hr229 := Tr.trans (Dw := Dw) hr229 ht240
            replace hB := Nat.le_trans hB ht240.ex.size
            replace hA := ht240.new
            refine V_ge rfl rfl rfl hc235 ?_
            refine V_y (Y_not rfl) rfl rfl rfl ?_
            refine V_y (Y_pick_fe rfl hc235 rfl) rfl rfl rfl ?_
            obtain rfl := Option.some.inj ho227
            refine V_end (fun a ha241 => ?_)
            exact ⟨A173, ha241.sub ⟨rfl, rfl, rfl, rfl, rfl, rfl, rfl, trivial⟩, ⟨hH, hr229⟩⟩
        rintro A233 w230 ⟨hH234, hk231⟩ a ha232
        replace hK := Tr.trans (Dw := Dw) hK hk231
        replace hr119 := Tr.trans (Dw := Dw) hr119 hk231
        replace hr148 := Tr.trans (Dw := Dw) hr148 hk231
        replace hB := Nat.le_trans hB hk231.ex.size
        replace hA := hk231.new
        replace hH : Hp w.heap.size A233 w230 (obS (α := cal_Span) 39 v134 s130.2.1 :: obS (α := Int) 3 v171 s165.1 :: obS (α := cal_edge) 73 v10 x107 :: []) := hH234
        refine C_at (n := ⟨130, [], none⟩) (fun _ _ => rfl) ?_ ha232
        refine C_cond rfl (fun hc242 => ?_) (fun hc242 => ?_)
        · rw [if_pos hc242] at ho146
          obtain rfl := Option.some.inj ho146
          refine C_exit (fun a ha243 => ?_)
          exact ⟨(v171, v134, A233), ha243.sub ⟨rfl, rfl, rfl, rfl, rfl, trivial⟩, ⟨hH, hr148⟩⟩
        · rw [if_neg (nt hc242)] at ho146
          refine C_skip_to (fun _ _ => rfl) ?_
          refine C_seq ?_
          refine C_region ?_
          refine V_y (Y_move rfl) rfl rfl rfl ?_
          refine V_y (Y_move rfl) rfl rfl rfl ?_
          refine V_y (Y_move rfl) rfl rfl rfl ?_
          obtain ⟨x244, hx244, ho146⟩ := Option.bind_eq_some_iff.1 ho146
          refine V_indexAddrH (α := cal_edge) (e := 73) (v := v10) (l := x107) hH (i := 2) rfl hx244 Try.underlying71 Try.sizeOf73 rfl rfl rfl ?_
          intro b245 o246 h247 hl248
          have h249 := El_cal_edge_0 h247
          refine V_y (Y_fieldAddr Try.underlying73 rfl Try.sizeOf3 (by decide) rfl) rfl rfl rfl ?_
          refine V_y (Y_load (El.int h249) Try.isAgg3 rfl) rfl rfl rfl ?_
          refine V_y (Y_build Try.underlying39 Try.zeroValue39 (Try_places39 _ Try.underlying39) rfl (by with_unfolding_all rfl)) rfl rfl rfl ?_
          refine V_alloc Try.zeroValue39 rfl ?_
          intro b250 w251 h252
          refine V_storeNew h252 Try.sizeOf39 rfl rfl rfl rfl (by exact (List.forall_mem_cons.2 ⟨rfl, (List.forall_mem_cons.2 ⟨rfl, (fun _ h => nomatch h)⟩)⟩)) ?_
          intro w253 h254
          have hk256 := h254.kp (Dw := Dw)
          have h255 : El (α := cal_Span) A233 w253 b250 0 (⟨x158.at_, x244.at_⟩ : cal_Span) := h254.el hA ⟨[.int .i64 x158.at_], _, rfl, rfl, rfl⟩
          have ht257 := Kp.tr (Dw := Dw) hk256 hA hB
          replace hH := Hp.kp (Dw := Dw) hH hk256
          replace h247 := El.kp (Dw := Dw) h247 hk256
          replace h249 := El.kp (Dw := Dw) h249 hk256
          replace hK := Tr.trans (Dw := Dw) hK ht257
          replace hr119 := Tr.trans (Dw := Dw) hr119 ht257
          replace hr148 := Tr.trans (Dw := Dw) hr148 ht257
          replace hB := Nat.le_trans hB ht257.ex.size
          replace hA := ht257.new
          refine V_to (fun _ _ => rfl) ?_
          refine C_seq ?_
          refine C_region ?_
          refine V_y (Y_move rfl) rfl rfl rfl ?_
          refine V_y (Y_lenSl (Hp.any (α := cal_Span) (e := 39) (v := v134) (l := s130.2.1) hH (i := 0) rfl) rfl Try.underlying34 rfl) rfl rfl rfl ?_
          refine V_y (Y_assign rfl) rfl rfl rfl ?_
          refine V_to (fun _ _ => rfl) ?_
          refine C_seq ?_
          refine C_region_q (Dw := Dw) Try_mixed (by kernel_rfl) ?_
          refine VQ_y (fun w' hw' => Y_move rfl) rfl rfl rfl ?_
          refine VQ_y (fun w' hw' => Y_gtr rfl rfl) rfl rfl rfl ?_
          refine VQ_y (fun w' hw' => Y_move rfl) rfl rfl rfl ?_
          obtain ⟨s259, hs259, ho146⟩ := Option.bind_eq_some_iff.1 ho146
          refine VQ_cut 10 (fun _ : Unit => [(1, .func (.func wanted_f) wanted_a wanted_c), (5, v10), (10, v171), (11, v134), (12, .int .i64 s165.2), (14, .pointer (some ⟨b250, 0, none⟩)), (15, .int .i64 (s130.2.1.length : Int)), (117, .bool s259)]) (fun _ => True) ?_ ?_
          · simp only [List.take, List.drop]
            rcases Bool.eq_false_or_eq_true (decide ((0 : Int) < (s130.2.1.length : Int))) with hc258 | hc258
            · rw [if_pos hc258] at hs259
              refine VQ_ge rfl rfl rfl hc258 ?_
              refine VQ_y (fun w' hw' => Y_move rfl) rfl rfl rfl ?_
              refine VQ_ge rfl rfl rfl hc258 ?_
              refine VQ_y (fun w' hw' => Y_move rfl) rfl rfl rfl ?_
              refine VQ_ge rfl rfl rfl hc258 ?_
              refine VQ_y (fun w' hw' => Y_subI rfl rfl) rfl rfl rfl ?_
              refine VQ_ge rfl rfl rfl hc258 ?_
              obtain ⟨x260, hx260, hs259⟩ := Option.bind_eq_some_iff.1 hs259
              refine VQ_indexAddrH (α := cal_Span) (e := 39) (v := v134) (l := s130.2.1) hH (i := 0) rfl hx260 Try.underlying34 Try.sizeOf39 rfl rfl rfl ?_
              intro b261 o262 h263 hl264
              refine VQ_ge rfl rfl rfl hc258 ?_
              have h265 := El_cal_Span_1 h263
              refine VQ_y (fun w' hw' => Y_fieldAddr Try.underlying39 rfl Try.sizeOf3 (by decide) rfl) rfl rfl rfl ?_
              refine VQ_ge rfl rfl rfl hc258 ?_
              refine VQ_y (fun w' hw' => Y_load (El.int (El.kp (Dw := Dw) h265 hw')) Try.isAgg3 rfl) rfl rfl rfl ?_
              refine VQ_ge rfl rfl rfl hc258 ?_
              have h266 := El_cal_Span_0 h255
              refine VQ_y (fun w' hw' => Y_fieldAddr Try.underlying39 rfl Try.sizeOf3 (by decide) rfl) rfl rfl rfl ?_
              refine VQ_ge rfl rfl rfl hc258 ?_
              refine VQ_y (fun w' hw' => Y_load (El.int (El.kp (Dw := Dw) h266 hw')) Try.isAgg3 rfl) rfl rfl rfl ?_
              refine VQ_ge rfl rfl rfl hc258 ?_
              refine VQ_y (fun w' hw' => Y_eql rfl rfl) rfl rfl rfl ?_
              refine VQ_y (fun _ _ => Y_pick_te rfl hc258 rfl) rfl rfl rfl ?_
              obtain rfl := Option.some.inj hs259
              exact VQ_end fun a ha => ⟨(), ha.sub ⟨rfl, rfl, rfl, rfl, rfl, rfl, rfl, rfl, trivial⟩, trivial⟩
            · rw [if_neg (nt hc258)] at hs259
              refine VQ_gn rfl rfl rfl hc258 rfl rfl rfl ?_
              refine VQ_gn rfl rfl rfl hc258 rfl rfl rfl ?_
              refine VQ_gn rfl rfl rfl hc258 rfl rfl rfl ?_
              refine VQ_gn rfl rfl rfl hc258 rfl rfl rfl ?_
              refine VQ_gn rfl rfl rfl hc258 rfl rfl rfl ?_
              refine VQ_gn rfl rfl rfl hc258 rfl rfl rfl ?_
              refine VQ_gn rfl rfl rfl hc258 rfl rfl rfl ?_
              refine VQ_gn rfl rfl rfl hc258 rfl rfl rfl ?_
              refine VQ_gn rfl rfl rfl hc258 rfl rfl rfl ?_
              refine VQ_y (fun _ _ => Y_pick_fe rfl hc258 rfl) rfl rfl rfl ?_
              obtain rfl := Option.some.inj hs259
              exact VQ_end fun a ha => ⟨(), ha.sub ⟨rfl, rfl, rfl, rfl, rfl, rfl, rfl, rfl, trivial⟩, trivial⟩
          simp only [List.take, List.drop]
          rintro _ _
          refine VQ_to (fun _ _ => rfl) (fun w267 hk268 => ?_)
          have ht269 := Kp.tr (Dw := Dw) hk268 hA hB
          replace hH := Hp.kp (Dw := Dw) hH hk268
          replace h255 := El.tr (Dw := Dw) h255 ht269
          replace hK := Tr.trans (Dw := Dw) hK ht269
          replace hr119 := Tr.trans (Dw := Dw) hr119 ht269
          replace hr148 := Tr.trans (Dw := Dw) hr148 ht269
          replace hB := Nat.le_trans hB ht269.ex.size
          replace hA := ht269.new
          obtain ⟨s271, ho270, ho146⟩ := Option.bind_eq_some_iff.1 ho146
          refine C_cutG (ι := (Value × (Nat → Prop))) (fun ⟨v273, A278⟩ => [(1, .func (.func wanted_f) wanted_a wanted_c), (5, v10), (10, v171), (11, v273), (12, .int .i64 s165.2)]) (fun ⟨v273, A278⟩ => fun w' => Hp w.heap.size A278 w' (obS (α := cal_Span) 39 v273 s271 :: obS (α := Int) 3 v171 s165.1 :: obS (α := cal_edge) 73 v10 x107 :: []) ∧ Tr Dw w.heap.size A233 w267 A278 w') ?_ ?_
          · have hr272 : Tr Dw w.heap.size A233 w267 A233 w267 := Tr.refl (Dw := Dw) hA
            refine C_cond rfl (fun hc280 => ?_) (fun hc280 => ?_)
            · rw [if_pos hc280] at ho270
              refine C_region ?_
              refine V_y (Y_move rfl) rfl rfl rfl ?_
              refine V_y (Y_move rfl) rfl rfl rfl ?_
              refine V_y (Y_subI rfl rfl) rfl rfl rfl ?_
              have h281 := El_cal_Span_1 h255
              refine V_y (Y_fieldAddr Try.underlying39 rfl Try.sizeOf3 (by decide) rfl) rfl rfl rfl ?_
              refine V_y (Y_load (El.int h281) Try.isAgg3 rfl) rfl rfl rfl ?_
              obtain ⟨x282, hx282, ho270⟩ := Option.bind_eq_some_iff.1 ho270
              refine V_indexAddrH (α := cal_Span) (e := 39) (v := v134) (l := s130.2.1) hH (i := 0) rfl hx282 Try.underlying34 Try.sizeOf39 rfl rfl rfl ?_
              intro b283 o284 h285 hl286
              have h287 := El_cal_Span_1 h285
              refine V_y (Y_fieldAddr Try.underlying39 rfl Try.sizeOf3 (by decide) rfl) rfl rfl rfl ?_
              obtain ⟨x288, hx288, ho270⟩ := Option.bind_eq_some_iff.1 ho270
              refine V_storeFH (Dw := Dw) (α := cal_Span) (e := 39) (v := v134) (l := s130.2.1) (foff := 1) hH (i := 0) rfl hl286 hx282 hx288 (fun _ h => by obtain ⟨_, _, rfl, rfl, rfl⟩ := h; exact ⟨[_], _, rfl, rfl, rfl⟩) Try.sizeOf3 rfl (by simp [Value.cells, Value.oneCell']) (by decide) hB hA (congrArg (fun z => some (Value.pointer (some ⟨_, z, none⟩))) (by simp [Nat.add_assoc])) rfl ?_
              intro w289 hH290 ht291
              replace h255 := El.tr (Dw := Dw) h255 ht291
              replace h281 := El.tr (Dw := Dw) h281 ht291
              replace hK := Tr.trans (Dw := Dw) hK ht291
              replace hr119 := Tr.trans (Dw := Dw) hr119 ht291
              replace hr148 := Tr.trans (Dw := Dw) hr148 ht291
              replace hr272 := Tr.trans (Dw := Dw) hr272 ht291
              replace hB := Nat.le_trans hB ht291.ex.size
              replace hA := ht291.new
              replace hH : Hp w.heap.size A233 w289 (obS (α := cal_Span) 39 v134 x288 :: obS (α := Int) 3 v171 s165.1 :: obS (α := cal_edge) 73 v10 x107 :: []) := hH290
              obtain rfl := Option.some.inj ho270
              refine V_end (fun a ha292 => ?_)
              exact ⟨(v134, A233), ha292.sub ⟨rfl, rfl, rfl, rfl, rfl, trivial⟩, ⟨hH, hr272⟩⟩
            · rw [if_neg (nt hc280)] at ho270
              refine C_region ?_
              refine V_y (Y_move rfl) rfl rfl rfl ?_
              obtain ⟨h293, _⟩ := El_cal_Span h255
              refine V_y (Y_loadA h293 Try.isAgg39 Try.sizeOf39 rfl) rfl rfl rfl ?_
              refine V_buildSlice (Dw := Dw) (cells := #[.int .i64 ((⟨x158.at_, x244.at_⟩ : cal_Span).from_), .int .i64 ((⟨x158.at_, x244.at_⟩ : cal_Span).to_)]) (l := ([(⟨x158.at_, x244.at_⟩ : cal_Span)] : List cal_Span)) (len := 1) Try.underlying34 Try.sizeOf39 Try.zeroValue39 rfl (by generalize ((⟨x158.at_, x244.at_⟩ : cal_Span).from_ : Int) = z298; generalize ((⟨x158.at_, x244.at_⟩ : cal_Span).to_ : Int) = z299; kernel_rfl) (show (1 * 2 : Nat) ≠ 0 by decide) (show (1 * 2 : Nat) ≤ 2 ^ 24 by decide) hA ⟨[.int .i64 ((⟨x158.at_, x244.at_⟩ : cal_Span).from_), .int .i64 ((⟨x158.at_, x244.at_⟩ : cal_Span).to_)], _, rfl, ⟨[.int .i64 ((⟨x158.at_, x244.at_⟩ : cal_Span).from_)], _, rfl, rfl, rfl⟩, rfl⟩ rfl rfl ?_
              intro v294 w295 hk297 h296
              have ht300 := Kp.tr (Dw := Dw) hk297 hA hB
              replace hH := Hp.kp (Dw := Dw) hH hk297
              replace h255 := El.tr (Dw := Dw) h255 ht300
              replace hK := Tr.trans (Dw := Dw) hK ht300
              replace hr119 := Tr.trans (Dw := Dw) hr119 ht300
              replace hr148 := Tr.trans (Dw := Dw) hr148 ht300
              replace hr272 := Tr.trans (Dw := Dw) hr272 ht300
              replace hB := Nat.le_trans hB ht300.ex.size
              replace hA := ht300.new
              obtain ⟨x301, hx301, ho270⟩ := Option.bind_eq_some_iff.1 ho270
              refine V_appendH (Dw := Dw) (e := 39) (v := v134) (l := s130.2.1) (ti := Try.t39) (bytes := 16) (lim := 8796093022208) hH (i := 0) rfl h296 hx301 Try.underlying34 Try_info39 rfl rfl rfl rfl (by decide) (by decide) (by decide) hB hA rfl rfl rfl ?_
              intro v302 w303 A304 hH305 ht306
              replace h255 := El.tr (Dw := Dw) h255 ht306
              replace h296 := Sl.tr (Dw := Dw) h296 ht306
              replace hK := Tr.trans (Dw := Dw) hK ht306
              replace hr119 := Tr.trans (Dw := Dw) hr119 ht306
              replace hr148 := Tr.trans (Dw := Dw) hr148 ht306
              replace hr272 := Tr.trans (Dw := Dw) hr272 ht306
              replace hB := Nat.le_trans hB ht306.ex.size
              replace hA := ht306.new
              replace hH : Hp w.heap.size A304 w303 (obS (α := cal_Span) 39 v302 x301 :: obS (α := Int) 3 v171 s165.1 :: obS (α := cal_edge) 73 v10 x107 :: []) := hH305
              refine V_y (Y_assign rfl) rfl rfl rfl ?_
              obtain rfl := Option.some.inj ho270
              refine V_end (fun a ha307 => ?_)
              exact ⟨(v302, A304), ha307.sub ⟨rfl, rfl, rfl, rfl, rfl, trivial⟩, ⟨hH, hr272⟩⟩
          rintro ⟨v273, A278⟩ w275 ⟨hH279, hk276⟩ a ha277
          replace hK := Tr.trans (Dw := Dw) hK hk276
          replace hr119 := Tr.trans (Dw := Dw) hr119 hk276
          replace hr148 := Tr.trans (Dw := Dw) hr148 hk276
          replace hB := Nat.le_trans hB hk276.ex.size
          replace hA := hk276.new
          replace hH : Hp w.heap.size A278 w275 (obS (α := cal_Span) 39 v273 s271 :: obS (α := Int) 3 v171 s165.1 :: obS (α := cal_edge) 73 v10 x107 :: []) := hH279
          obtain rfl := Option.some.inj ho146
          exact ⟨(v171, v273, A278), ha277.sub ⟨rfl, rfl, rfl, rfl, rfl, trivial⟩, ⟨hH, hr148⟩⟩
      rintro ⟨v149, v151, A156⟩ w153 ⟨hH157, hk154⟩ a ha155
      replace hK := Tr.trans (Dw := Dw) hK hk154
      replace hr119 := Tr.trans (Dw := Dw) hr119 hk154
      replace hB := Nat.le_trans hB hk154.ex.size
      replace hA := hk154.new
      replace hH : Hp w.heap.size A156 w153 (obS (α := cal_Span) 39 v151 s147.2.1 :: obS (α := Int) 3 v149 s147.1 :: obS (α := cal_edge) 73 v10 x107 :: []) := hH157
      obtain rfl := Option.some.inj h139
      exact ⟨(s147.1, s147.2.1, s147.2.2), h140, ⟨(v149, v151, A156), ha155.sub ⟨rfl, rfl, rfl, rfl, rfl, trivial⟩, ⟨hH, hr119⟩⟩⟩
    · rw [if_neg (nt hc145)] at h139
      obtain rfl := Option.some.inj h139
      refine C_exit (fun a ha310 => ?_)
      exact ⟨((s130.1, s130.2.1, s130.2.2), v132, v134, A136), ha310.sub ⟨rfl, trivial⟩, ⟨h140.symm, hH, hr119⟩⟩
  rintro ⟨s118, v124, v126, A128⟩ w121 ⟨rfl, hH129, hk122⟩ a ha123
  rw [Lp.andThen_fin] at hm
  replace hK := Tr.trans (Dw := Dw) hK hk122
  replace hB := Nat.le_trans hB hk122.ex.size
  replace hA := hk122.new
  replace hH : Hp w.heap.size A128 w121 (obS (α := cal_Span) 39 v126 s118.2.1 :: obS (α := Int) 3 v124 s118.1 :: obS (α := cal_edge) 73 v10 x107 :: []) := hH129
  refine C_at (n := ⟨130, [], none⟩) (fun _ _ => rfl) ?_ ha123
  refine C_seq ?_
  refine C_region ?_
  refine V_y (Y_move rfl) rfl rfl rfl ?_
  refine V_y (Y_assign rfl) rfl rfl rfl ?_
  refine V_to (fun _ _ => rfl) ?_
  obtain rfl := Option.some.inj hm
  refine C_ret ?_
  try simp only [↓inBlock_ret, ↓then_ret]
  exact retQ rfl (Res.one Try.results29 rfl) ⟨v126, rfl, (Hp.ownd hH (i := 0) rfl), hK.kp⟩

set_option maxRecDepth 4000 in
set_option maxHeartbeats 4000000 in
theorem cal_Normal_1_c (w : World) {A : Nat → Prop} (counts : (List Int)) (v_counts : Value) (h_counts : Sl A w v_counts counts) {r : Bool} (hm : cal_Normal_1 counts = some r) : Ret Try.prog 30 #[v_counts] w fun v w' => v = .bool r ∧ w = w' := by
  unfold cal_Normal_1 at hm
  refine enter Try.func30 rfl Try.ntmps30 rfl ?_
  refine C_seq ?_
  refine C_region ?_
  refine V_y (Y_assign rfl) rfl rfl rfl ?_
  refine V_to (fun _ _ => rfl) ?_
  refine C_seq ?_
  refine C_region ?_
  refine V_y (Y_move rfl) rfl rfl rfl ?_
  obtain ⟨x3, hx3, hm⟩ := Option.bind_eq_some_iff.1 hm
  refine V_indexAddr h_counts hx3 Try.underlying45 Try.sizeOf3 rfl rfl rfl ?_
  intro b4 o5 h6
  refine V_y (Y_load (El.int h6) Try.isAgg3 rfl) rfl rfl rfl ?_
  refine V_y (Y_gtr rfl rfl) rfl rfl rfl ?_
  refine V_y (Y_assign rfl) rfl rfl rfl ?_
  refine V_to (fun _ _ => rfl) ?_
  obtain rfl := Option.some.inj hm
  refine C_ret ?_
  try simp only [↓inBlock_ret, ↓then_ret]
  exact retQ rfl (Res.one Try.results30 rfl) ⟨rfl, rfl⟩

set_option maxRecDepth 4000 in
set_option maxHeartbeats 4000000 in
theorem cal_Normal_c (w : World) {A : Nat → Prop} (hA : ∀ b, w.heap.size ≤ b → A b) (l : (List cal_Span)) (v_l : Value) (h_l : Sl A w v_l l) {r : ((List cal_Span) × Int)} (hm : cal_Normal l = some r) : Ret Try.prog 8 #[v_l] w fun v w' => ∃ s0, v = .tuple #[s0, .int .i64 r.2] ∧ Ownd 39 w w' s0 r.1 ∧ Kp Dw w w' := by
  unfold cal_Normal at hm
  refine enter Try.func8 rfl Try.ntmps8 rfl ?_
  have hA0 := hA
  have hB := Nat.le_refl w.heap.size
  have hK : Tr Dw w.heap.size A w A w := Tr.refl (Dw := Dw) hA
  have hH : Hp w.heap.size A w [] := Hp.nil
  refine C_seq ?_
  refine C_region ?_
  refine V_y (Y_assign rfl) rfl rfl rfl ?_
  refine V_y (Y_assign rfl) rfl rfl rfl ?_
  refine V_to (fun _ _ => rfl) ?_
  refine C_seq ?_
  refine C_seq ?_
  refine C_region ?_
  refine V_y (Y_move rfl) rfl rfl rfl ?_
  refine V_y (Y_lenSl h_l rfl Try.underlying34 rfl) rfl rfl rfl ?_
  refine V_y (Y_gtr rfl rfl) rfl rfl rfl ?_
  refine V_to (fun _ _ => rfl) ?_
  refine C_cond rfl (fun hc3 => ?_) (fun hc3 => ?_)
  · rw [if_pos hc3] at hm
    refine C_seq ?_
    refine C_region ?_
    refine V_y (Y_assign rfl) rfl rfl rfl ?_
    refine V_y (Y_assign rfl) rfl rfl rfl ?_
    refine V_to (fun _ _ => rfl) ?_
    obtain rfl := Option.some.inj hm
    replace hH : Hp w.heap.size A w (obS (α := cal_Span) 39 (.slice none 0 0) ([] : (List cal_Span)) :: []) := Hp.addNil (α := cal_Span) (e := 39) hH
    refine C_ret ?_
    try simp only [↓inBlock_ret, ↓then_ret]
    exact retQ rfl (Res.two Try.results8 rfl rfl) ⟨.slice none 0 0, rfl, (Hp.ownd hH (i := 0) rfl), hK.kp⟩
  · rw [if_neg (nt hc3)] at hm
    refine C_skip_to (fun _ _ => rfl) ?_
    refine C_seq ?_
    refine C_seq ?_
    refine C_region ?_
    refine V_y (Y_move rfl) rfl rfl rfl ?_
    refine V_y (Y_lenSl h_l rfl Try.underlying34 rfl) rfl rfl rfl ?_
    refine V_y (Y_move rfl) rfl rfl rfl ?_
    refine V_to (fun _ _ => rfl) ?_
    have hn25 := Sl.le h_l
    obtain ⟨o4, ho4, hm⟩ := Option.bind_eq_some_iff.1 hm
    refine C_cutG (ι := (Unit × (Nat → Prop))) (fun ⟨s5, A12⟩ => [(0, v_l)]) (fun ⟨s5, A12⟩ => fun w' => o4 = .fin s5 ∧ Hp w.heap.size A12 w' ([]) ∧ Tr Dw w.heap.size A w A12 w') ?_ ?_
    · refine C_block ?_
      refine C_range ho4 (fun k7 _ a w' => ∃ i : (Nat → Prop), Has ⟨25, [], none⟩ a ([(0, v_l), (10, v_l), (11, .int .i64 (l.length : Int)), (12, .int .i64 (k7 : Int))]) ∧ Hp w.heap.size i w' ([]) ∧ Tr Dw w.heap.size A w i w') (fun a ha => ⟨A, ha.sub ⟨rfl, rfl, rfl, rfl, trivial⟩, ⟨hH, Tr.refl (Dw := Dw) hA⟩⟩) ?_
      rintro K k7 _ a w15 ⟨A16, ha48, hH17, hr6⟩ hle21 K24 h23
      refine C_of ?_ ha48
      replace h_l := Sl.tr (Dw := Dw) h_l hr6
      replace hK := Tr.trans (Dw := Dw) hK hr6
      replace hB := Nat.le_trans hB hr6.ex.size
      replace hA := hr6.new
      replace hH : Hp w.heap.size A16 w15 ([]) := hH17
      refine C_seq (C_region (V_y (Y_lss rfl rfl) rfl rfl rfl (V_to (fun _ _ => rfl) ?_)))
      refine C_seq ?_
      refine C_cond rfl (fun hc26 => ?_) (fun hc26 => ?_)
      · have hlt22 := lt_of_dec hc26
        obtain ⟨x18, h19, h20⟩ := K24 hlt22
        refine C_skip_to (fun _ _ => rfl) ?_
        refine C_seq ?_
        refine C_block ?_
        refine C_seq ?_
        refine C_region ?_
        obtain ⟨x27, hx27, h19⟩ := Option.bind_eq_some_iff.1 h19
        refine V_indexAddr h_l hx27 Try.underlying34 Try.sizeOf39 rfl rfl rfl ?_
        intro b28 o29 h30
        obtain ⟨h31, _⟩ := El_cal_Span h30
        refine V_y (Y_loadA h31 Try.isAgg39 Try.sizeOf39 rfl) rfl rfl rfl ?_
        refine V_alloc Try.zeroValue39 rfl ?_
        intro b32 w33 h34
        refine V_storeNew h34 Try.sizeOf39 rfl rfl rfl rfl (by exact (List.forall_mem_cons.2 ⟨rfl, (List.forall_mem_cons.2 ⟨rfl, (fun _ h => nomatch h)⟩)⟩)) ?_
        intro w35 h36
        have hk38 := h36.kp (Dw := Dw)
        have h37 : El (α := cal_Span) A16 w35 b32 0 x27 := h36.el hA ⟨[.int .i64 x27.from_], _, rfl, rfl, rfl⟩
        have ht39 := Kp.tr (Dw := Dw) hk38 hA hB
        replace hH := Hp.kp (Dw := Dw) hH hk38
        replace h_l := Sl.tr (Dw := Dw) h_l ht39
        replace h30 := El.tr (Dw := Dw) h30 ht39
        replace hK := Tr.trans (Dw := Dw) hK ht39
        replace hr6 := Tr.trans (Dw := Dw) hr6 ht39
        replace hB := Nat.le_trans hB ht39.ex.size
        replace hA := ht39.new
        refine V_to (fun _ _ => rfl) ?_
        refine C_seq ?_
        refine C_region ?_
        obtain ⟨h40, _⟩ := El_cal_Span h37
        refine V_y (Y_loadA h40 Try.isAgg39 Try.sizeOf39 rfl) rfl rfl rfl ?_
        obtain ⟨x41, hx41, h19⟩ := Option.bind_eq_some_iff.1 h19
        refine V_call Try.call28 rfl rfl rfl rfl (cal_checkSpan_c (Dw := Dw) w35 hA x27 hx41) ?_
        rintro _ w42 ⟨rfl, hk43⟩
        have ht44 := Kp.tr (Dw := Dw) hk43 hA hB
        replace hH := Hp.kp (Dw := Dw) hH hk43
        replace h_l := Sl.tr (Dw := Dw) h_l ht44
        replace h37 := El.tr (Dw := Dw) h37 ht44
        replace hK := Tr.trans (Dw := Dw) hK ht44
        replace hr6 := Tr.trans (Dw := Dw) hr6 ht44
        replace hB := Nat.le_trans hB ht44.ex.size
        replace hA := ht44.new
        refine V_y (Y_assign rfl) rfl rfl rfl ?_
        refine V_to (fun _ _ => rfl) ?_
        refine C_seq ?_
        refine C_region ?_
        refine V_y (Y_move rfl) rfl rfl rfl ?_
        refine V_y (Y_neq rfl rfl) rfl rfl rfl ?_
        refine V_to (fun _ _ => rfl) ?_
        refine C_cond rfl (fun hc45 => ?_) (fun hc45 => ?_)
        · rw [if_pos hc45] at h19
          refine C_seq ?_
          refine C_region ?_
          refine V_y (Y_move rfl) rfl rfl rfl ?_
          refine V_y (Y_assign rfl) rfl rfl rfl ?_
          refine V_y (Y_assign rfl) rfl rfl rfl ?_
          refine V_to (fun _ _ => rfl) ?_
          obtain rfl := Option.some.inj h19
          obtain rfl := (h20 : Lp.rt _ = _)
          rw [Lp.andThen_rt] at hm
          obtain rfl := Option.some.inj hm
          replace hH : Hp w.heap.size A16 w42 (obS (α := cal_Span) 39 (.slice none 0 0) ([] : (List cal_Span)) :: []) := Hp.addNil (α := cal_Span) (e := 39) hH
          refine C_ret ?_
          try simp only [↓inBlock_ret, ↓then_ret]
          exact retQ rfl (Res.two Try.results8 rfl rfl) ⟨.slice none 0 0, rfl, (Hp.ownd hH (i := 0) rfl), hK.kp⟩
        · rw [if_neg (nt hc45)] at h19
          refine C_skip_to (fun _ _ => rfl) ?_
          refine C_region ?_
          refine V_y (Y_addI rfl rfl) rfl rfl rfl ?_
          refine V_y (Y_move rfl) rfl rfl rfl ?_
          obtain rfl := Option.some.inj h19
          refine V_end (fun a ha46 => ?_)
          exact ⟨(), hlt22, h20, ⟨A16, ha46.sub ⟨rfl, rfl, rfl, (congrArg (fun z => some (Value.int .i64 z)) (w64_succ hlt22 hn25)), trivial⟩, ⟨hH, hr6⟩⟩⟩
      · refine C_exit (fun a ha47 => ?_)
        exact ⟨((), A16), ha47.sub ⟨rfl, trivial⟩, ⟨(h23 (eq_of_dec hle21 hc26)).symm, hH, hr6⟩⟩
    rintro ⟨s5, A12⟩ w9 ⟨rfl, hH13, hk10⟩ a ha11
    rw [Lp.andThen_fin] at hm
    replace h_l := Sl.tr (Dw := Dw) h_l hk10
    replace hK := Tr.trans (Dw := Dw) hK hk10
    replace hB := Nat.le_trans hB hk10.ex.size
    replace hA := hk10.new
    replace hH : Hp w.heap.size A12 w9 ([]) := hH13
    refine C_at (n := ⟨25, [], none⟩) (fun _ _ => rfl) ?_ ha11
    refine C_seq ?_
    refine C_region ?_
    refine V_y (Y_move rfl) rfl rfl rfl ?_
    refine V_buildSlice (Dw := Dw) (cells := #[v_l]) (l := ([l] : List (List cal_Span))) (len := 1) Try.underlying62 Try.sizeOf34 Try.zeroValue34 rfl (by obtain ⟨a53, c54, e55, _⟩ := Sl.form h_l; subst e55; kernel_rfl) (show (1 * 1 : Nat) ≠ 0 by decide) (show (1 * 1 : Nat) ≤ 2 ^ 24 by decide) hA ⟨[v_l], _, rfl, ⟨_, rfl, h_l⟩, rfl⟩ rfl rfl ?_
    intro v49 w50 hk52 h51
    have ht56 := Kp.tr (Dw := Dw) hk52 hA hB
    replace hH := Hp.kp (Dw := Dw) hH hk52
    replace h_l := Sl.tr (Dw := Dw) h_l ht56
    replace hK := Tr.trans (Dw := Dw) hK ht56
    replace hB := Nat.le_trans hB ht56.ex.size
    replace hA := ht56.new
    obtain ⟨x58, hx58, hm⟩ := Option.bind_eq_some_iff.1 hm
    refine V_call Try.call29 rfl rfl rfl rfl (cal_swept_c (Dw := Dw) w50 hA ([l] : List (List cal_Span)) v49 h51 (fun y71 => cal_Normal_1 y71) 30 #[] #[] Try.call30 (fun w66 A67 ht68 h69 A70 y61 v62 h63 r64 h65 => (cal_Normal_1_c (A := fun _ => True) w66  y61 v62 (Sl.any h63)  h65).mono (fun _ _ h => ⟨h.1, h.2 ▸ Kp.refl (Dw := Dw) _⟩)) hx58) ?_
    rintro v59 w72 ⟨_, rfl, h60, hk73⟩
    obtain ⟨A74, ht75, hH76⟩ := Hp.addOwnd (Dw := Dw) hH hB hA hk73 h60
    replace h_l := Sl.tr (Dw := Dw) h_l ht75
    replace h51 := Sl.tr (Dw := Dw) h51 ht75
    replace hK := Tr.trans (Dw := Dw) hK ht75
    replace hB := Nat.le_trans hB ht75.ex.size
    replace hA := ht75.new
    replace hH : Hp w.heap.size A74 w72 (obS (α := cal_Span) 39 v59 x58 :: []) := hH76
    refine V_y (Y_assign rfl) rfl rfl rfl ?_
    refine V_y (Y_assign rfl) rfl rfl rfl ?_
    refine V_to (fun _ _ => rfl) ?_
    obtain rfl := Option.some.inj hm
    refine C_ret ?_
    try simp only [↓inBlock_ret, ↓then_ret]
    exact retQ rfl (Res.two Try.results8 rfl rfl) ⟨v59, rfl, (Hp.ownd hH (i := 0) rfl), hK.kp⟩

set_option maxRecDepth 4000 in
set_option maxHeartbeats 4000000 in
theorem portref2_IsEnd_c (w : World) (m : Int) : Ret Try.prog 42 #[.int .i64 m] w fun v w' => v = .bool (portref2_IsEnd m) ∧ w = w' := by
  generalize hm : portref2_IsEnd m = r
  unfold portref2_IsEnd at hm
  refine enter Try.func42 rfl Try.ntmps42 rfl ?_
  refine C_seq ?_
  refine C_region ?_
  refine V_y (Y_assign rfl) rfl rfl rfl ?_
  refine V_to (fun _ _ => rfl) ?_
  refine C_seq ?_
  refine C_region ?_
  refine V_y (Y_move rfl) rfl rfl rfl ?_
  refine V_y (Y_geq rfl rfl) rfl rfl rfl ?_
  refine V_y (Y_move rfl) rfl rfl rfl ?_
  refine V_cut 3 (fun _ : Unit => [(8, .bool ((decide ((0 : Int) ≤ m)) && (decide (m ≤ 3000001))))]) (fun _ w' => w = w') ?_ ?_
  · simp only [List.take, List.drop]
    rcases Bool.eq_false_or_eq_true (decide ((0 : Int) ≤ m)) with hc1 | hc1
    · refine V_ge rfl rfl rfl hc1 ?_
      refine V_y (Y_move rfl) rfl rfl rfl ?_
      refine V_ge rfl rfl rfl hc1 ?_
      refine V_y (Y_leq rfl rfl) rfl rfl rfl ?_
      refine V_y (Y_pick_te rfl hc1 rfl) rfl rfl rfl ?_
      exact V_end fun a ha => ⟨(), ha.sub ⟨(by rw [hc1]; rfl), trivial⟩, rfl⟩
    · refine V_gn rfl rfl rfl hc1 rfl rfl rfl ?_
      refine V_gn rfl rfl rfl hc1 rfl rfl rfl ?_
      refine V_y (Y_pick_fe rfl hc1 rfl) rfl rfl rfl ?_
      exact V_end fun a ha => ⟨(), ha.sub ⟨(by rw [hc1]; rfl), trivial⟩, rfl⟩
  simp only [List.take, List.drop]
  rintro _ _ rfl
  refine V_y (Y_assign rfl) rfl rfl rfl ?_
  refine V_to (fun _ _ => rfl) ?_
  obtain rfl := hm
  refine C_ret ?_
  try simp only [↓inBlock_ret, ↓then_ret]
  exact retQ rfl (Res.one Try.results42 rfl) ⟨rfl, rfl⟩

set_option maxRecDepth 4000 in
set_option maxHeartbeats 4000000 in
theorem portref2_IsMoment_c (w : World) (m : Int) : Ret Try.prog 41 #[.int .i64 m] w fun v w' => v = .bool (portref2_IsMoment m) ∧ w = w' := by
  generalize hm : portref2_IsMoment m = r
  unfold portref2_IsMoment at hm
  refine enter Try.func41 rfl Try.ntmps41 rfl ?_
  refine C_seq ?_
  refine C_region ?_
  refine V_y (Y_assign rfl) rfl rfl rfl ?_
  refine V_to (fun _ _ => rfl) ?_
  refine C_seq ?_
  refine C_region ?_
  refine V_y (Y_move rfl) rfl rfl rfl ?_
  refine V_y (Y_geq rfl rfl) rfl rfl rfl ?_
  refine V_y (Y_move rfl) rfl rfl rfl ?_
  refine V_cut 3 (fun _ : Unit => [(8, .bool ((decide ((0 : Int) ≤ m)) && (decide (m ≤ 3000000))))]) (fun _ w' => w = w') ?_ ?_
  · simp only [List.take, List.drop]
    rcases Bool.eq_false_or_eq_true (decide ((0 : Int) ≤ m)) with hc1 | hc1
    · refine V_ge rfl rfl rfl hc1 ?_
      refine V_y (Y_move rfl) rfl rfl rfl ?_
      refine V_ge rfl rfl rfl hc1 ?_
      refine V_y (Y_leq rfl rfl) rfl rfl rfl ?_
      refine V_y (Y_pick_te rfl hc1 rfl) rfl rfl rfl ?_
      exact V_end fun a ha => ⟨(), ha.sub ⟨(by rw [hc1]; rfl), trivial⟩, rfl⟩
    · refine V_gn rfl rfl rfl hc1 rfl rfl rfl ?_
      refine V_gn rfl rfl rfl hc1 rfl rfl rfl ?_
      refine V_y (Y_pick_fe rfl hc1 rfl) rfl rfl rfl ?_
      exact V_end fun a ha => ⟨(), ha.sub ⟨(by rw [hc1]; rfl), trivial⟩, rfl⟩
  simp only [List.take, List.drop]
  rintro _ _ rfl
  refine V_y (Y_assign rfl) rfl rfl rfl ?_
  refine V_to (fun _ _ => rfl) ?_
  obtain rfl := hm
  refine C_ret ?_
  try simp only [↓inBlock_ret, ↓then_ret]
  exact retQ rfl (Res.one Try.results41 rfl) ⟨rfl, rfl⟩

set_option maxRecDepth 4000 in
set_option maxHeartbeats 4000000 in
theorem portref2_spanFault_c (w : World) {A : Nat → Prop} (hA : ∀ b, w.heap.size ≤ b → A b) (s : cal_Span) {r : Int} (hm : portref2_spanFault s = some r) : Ret Try.prog 31 #[.agg #[.int .i64 s.from_, .int .i64 s.to_]] w fun v w' => v = .int .i64 r ∧ Kp Dw w w' := by
  unfold portref2_spanFault at hm
  refine enter Try.func31 rfl Try.ntmps31 rfl ?_
  have hA0 := hA
  have hB := Nat.le_refl w.heap.size
  have hK : Tr Dw w.heap.size A w A w := Tr.refl (Dw := Dw) hA
  have hH : Hp w.heap.size A w [] := Hp.nil
  refine C_seq ?_
  refine C_region ?_
  refine V_box rfl rfl ?_
  intro b1 w2 h3
  have hk5 := h3.kp (Dw := Dw)
  have h4 : El (α := cal_Span) A w2 b1 0 s := h3.el hA ⟨[.int .i64 s.from_], _, rfl, rfl, rfl⟩
  have ht6 := Kp.tr (Dw := Dw) hk5 hA hB
  replace hH := Hp.kp (Dw := Dw) hH hk5
  replace hK := Tr.trans (Dw := Dw) hK ht6
  replace hB := Nat.le_trans hB ht6.ex.size
  replace hA := ht6.new
  refine V_y (Y_assign rfl) rfl rfl rfl ?_
  refine V_to (fun _ _ => rfl) ?_
  refine C_seq ?_
  refine C_block ?_
  refine C_seq ?_
  refine C_region ?_
  have h7 := El_cal_Span_0 h4
  refine V_y (Y_fieldAddr Try.underlying39 rfl Try.sizeOf3 (by decide) rfl) rfl rfl rfl ?_
  refine V_y (Y_load (El.int h7) Try.isAgg3 rfl) rfl rfl rfl ?_
  refine V_call Try.call41 rfl rfl rfl rfl (portref2_IsMoment_c w2 s.from_) ?_
  rintro _ _ ⟨rfl, rfl⟩
  refine V_y (Y_not rfl) rfl rfl rfl ?_
  refine V_y (Y_move rfl) rfl rfl rfl ?_
  refine V_cut 5 (fun _ : Unit => [(1, .pointer (some ⟨b1, 0, none⟩)), (13, .bool ((!(portref2_IsMoment s.from_)) || (!(portref2_IsEnd s.to_))))]) (fun _ w' => w2 = w') ?_ ?_
  · simp only [List.take, List.drop]
    rcases Bool.eq_false_or_eq_true (!(portref2_IsMoment s.from_)) with hc8 | hc8
    · refine V_gn rfl rfl rfl hc8 rfl rfl rfl ?_
      refine V_gn rfl rfl rfl hc8 rfl rfl rfl ?_
      refine V_gn rfl rfl rfl hc8 rfl rfl rfl ?_
      refine V_gn rfl rfl rfl hc8 rfl rfl rfl ?_
      refine V_y (Y_pick_te rfl hc8 rfl) rfl rfl rfl ?_
      exact V_end fun a ha => ⟨(), ha.sub ⟨rfl, (by rw [hc8]; rfl), trivial⟩, rfl⟩
    · refine V_ge rfl rfl rfl hc8 ?_
      have h10 := El_cal_Span_1 h4
      refine V_y (Y_fieldAddr Try.underlying39 rfl Try.sizeOf3 (by decide) rfl) rfl rfl rfl ?_
      refine V_ge rfl rfl rfl hc8 ?_
      refine V_y (Y_load (El.int h10) Try.isAgg3 rfl) rfl rfl rfl ?_
      refine V_ge rfl rfl rfl hc8 ?_
      refine V_call Try.call42 rfl rfl rfl rfl (portref2_IsEnd_c w2 s.to_) ?_
      rintro _ _ ⟨rfl, rfl⟩
      refine V_ge rfl rfl rfl hc8 ?_
      refine V_y (Y_not rfl) rfl rfl rfl ?_
      refine V_y (Y_pick_fe rfl hc8 rfl) rfl rfl rfl ?_
      exact V_end fun a ha => ⟨(), ha.sub ⟨rfl, (by rw [hc8]; rfl), trivial⟩, rfl⟩
  simp only [List.take, List.drop]
  rintro _ _ rfl
  refine V_y (Y_assign rfl) rfl rfl rfl ?_
  refine V_to (fun _ _ => rfl) ?_
  refine C_cond rfl (fun hc11 => ?_) (fun hc11 => ?_)
  · rw [if_pos hc11] at hm
    refine C_seq ?_
    refine C_region ?_
    refine V_y (Y_assign rfl) rfl rfl rfl ?_
    refine V_to (fun _ _ => rfl) ?_
    obtain rfl := Option.some.inj hm
    refine C_ret ?_
    try simp only [↓inBlock_ret, ↓then_ret]
    exact retQ rfl (Res.one Try.results31 rfl) ⟨rfl, hK.kp⟩
  · rw [if_neg (nt hc11)] at hm
    refine C_seq ?_
    refine C_region ?_
    have h12 := El_cal_Span_1 h4
    refine V_y (Y_fieldAddr Try.underlying39 rfl Try.sizeOf3 (by decide) rfl) rfl rfl rfl ?_
    refine V_y (Y_load (El.int h12) Try.isAgg3 rfl) rfl rfl rfl ?_
    have h13 := El_cal_Span_0 h4
    refine V_y (Y_fieldAddr Try.underlying39 rfl Try.sizeOf3 (by decide) rfl) rfl rfl rfl ?_
    refine V_y (Y_load (El.int h13) Try.isAgg3 rfl) rfl rfl rfl ?_
    refine V_y (Y_leq rfl rfl) rfl rfl rfl ?_
    refine V_y (Y_assign rfl) rfl rfl rfl ?_
    refine V_to (fun _ _ => rfl) ?_
    refine C_cond rfl (fun hc14 => ?_) (fun hc14 => ?_)
    · rw [if_pos hc14] at hm
      refine C_seq ?_
      refine C_region ?_
      refine V_y (Y_assign rfl) rfl rfl rfl ?_
      refine V_to (fun _ _ => rfl) ?_
      obtain rfl := Option.some.inj hm
      refine C_ret ?_
      try simp only [↓inBlock_ret, ↓then_ret]
      exact retQ rfl (Res.one Try.results31 rfl) ⟨rfl, hK.kp⟩
    · rw [if_neg (nt hc14)] at hm
      refine C_skip_to (fun _ _ => rfl) ?_
      refine C_seq ?_
      refine C_region ?_
      refine V_y (Y_assign rfl) rfl rfl rfl ?_
      refine V_to (fun _ _ => rfl) ?_
      obtain rfl := Option.some.inj hm
      refine C_ret ?_
      try simp only [↓inBlock_ret, ↓then_ret]
      exact retQ rfl (Res.one Try.results31 rfl) ⟨rfl, hK.kp⟩

def Try_cp44_ren : Go.Shelf.Ren := ⟨fun | 20 => 44 | n => n, fun | 0 => 0 | 1 => 1 | 2 => 2 | 3 => 3 | 4 => 4 | 5 => 5 | 6 => 6 | 7 => 7 | 8 => 8 | 9 => 9 | 10 => 10 | 11 => 11 | 12 => 12 | 13 => 13 | 14 => 14 | 15 => 15 | 16 => 16 | 17 => 17 | 18 => 18 | 19 => 19 | 20 => 20 | 21 => 21 | 22 => 45 | 23 => 77 | 33 => 86 | 40 => 70 | 41 => 109 | 42 => 66 | 45 => 76 | 46 => 121 | 47 => 122 | 48 => 123 | 49 => 124 | 50 => 125 | 51 => 126 | 52 => 127 | 53 => 89 | 54 => 128 | 55 => 129 | 56 => 130 | 57 => 131 | 58 => 132 | 59 => 133 | 60 => 134 | 61 => 135 | 62 => 136 | n => n, fun n => n⟩
theorem Try_cp44_lay : Go.Proofs.Lays2.n20 Try.prog Try_cp44_ren := {
  mixed := by kernel_rfl,
  f20 := Try.func44.trans (congrArg some (by kernel_rfl)),
  t0 := Try.underlying0,
  a0 := Try.isAgg0,
  z0 := Try.sizeOf0,
  v0 := Try.zeroValue0,
  t3 := Try.underlying3,
  a3 := Try.isAgg3,
  z3 := Try.sizeOf3,
  v3 := Try.zeroValue3,
  t4 := Try.underlying4,
  a4 := Try.isAgg4,
  z4 := Try.sizeOf4,
  v4 := Try.zeroValue4,
  t22 := Try.underlying45,
  a22 := Try.isAgg45,
  z22 := Try.sizeOf45,
  v22 := Try.zeroValue45,
  i3 := by kernel_rfl }
theorem Try_cp44 {l r : List Int} {B : Nat} {A : Nat → Prop} {w : World} {L : List Ob} {i : Nat} {v : Value} (hH : Hp B A w L) (hi : L[i]? = some (obS (α := Int) 3 v l)) (hB : B ≤ w.heap.size) (hA : ∀ b, w.heap.size ≤ b → A b) (hr : compactIntsL l = some r) : Ret Try.prog 44 #[v] w fun u w' => ∃ v', u = v' ∧ Hp B A w' (L.set i (obS (α := Int) 3 v' r)) ∧ Tr Dw B A w A w' :=
  Hp.compactInts (Dw := Dw) (fun a c w => Go.Proofs.Any.slices_Compact_int_empty Try_cp44_lay a c w) (fun blk off cap zs w h1 h2 h3 => Go.Proofs.Any.slices_Compact_int Try_cp44_lay blk off cap zs w h1 h2 h3) hH hi hB hA hr

set_option maxRecDepth 4000 in
set_option maxHeartbeats 4000000 in
theorem portref2_merged_c (w : World) {A : Nat → Prop} {B : Nat} (hB : B ≤ w.heap.size) (hA : ∀ b, w.heap.size ≤ b → A b) (holds : Int → Option Bool) (holds_Y : Ob) (holds_v : Value) (holds_one : holds_v.cells.toList = [holds_v]) (holds_spec : ∀ (w2 : World) (A2 : Nat → Prop) (L2 : List Ob) (x : Int) (b : Bool), B ≤ w2.heap.size → (∀ b, w2.heap.size ≤ b → A2 b) → Tr Dw B A w A2 w2 → Hp B A2 w2 (holds_Y :: L2) → holds x = some b → CallV Try.prog holds_v [.int .i64 x] w2 fun v w3 => v = .bool b ∧ ∃ A3, Tr Dw B A2 w2 A3 w3 ∧ Hp B A3 w3 (holds_Y :: L2)) (lists : (List (List cal_Span))) (v_lists : Value) (h_lists : Sl A w v_lists lists) {L : List Ob} (hH : Hp B A w (holds_Y :: L)) {r : (List cal_Span)} (hm : portref2_merged holds lists = some r) : Ret Try.prog 32 #[holds_v, v_lists] w fun v w' => ∃ s0, ∃ A1 : Nat → Prop, v = s0 ∧ Hp B A1 w' (obS (α := cal_Span) 39 s0 r :: holds_Y :: L) ∧ Tr Dw B A w A1 w' := by
  unfold portref2_merged at hm
  refine enter Try.func32 rfl Try.ntmps32 rfl ?_
  have hK : Tr Dw B A w A w := Tr.refl (Dw := Dw) hA
  refine C_seq ?_
  refine C_region ?_
  refine V_y (Y_assign rfl) rfl rfl rfl ?_
  refine V_to (fun _ _ => rfl) ?_
  refine C_seq ?_
  refine C_region ?_
  refine V_y (Y_assign rfl) rfl rfl rfl ?_
  refine V_to (fun _ _ => rfl) ?_
  refine C_seq ?_
  refine C_seq ?_
  refine C_region ?_
  refine V_y (Y_move rfl) rfl rfl rfl ?_
  refine V_y (Y_lenSl h_lists rfl Try.underlying62 rfl) rfl rfl rfl ?_
  refine V_y (Y_move rfl) rfl rfl rfl ?_
  refine V_to (fun _ _ => rfl) ?_
  replace hH : Hp B A w (obS (α := Int) 3 (.slice none 0 0) ([] : (List Int)) :: holds_Y :: L) := Hp.addNil (α := Int) (e := 3) hH
  have hn27 := Sl.le h_lists
  obtain ⟨o3, ho3, hm⟩ := Option.bind_eq_some_iff.1 hm
  refine C_cutG (ι := ((List Int) × Value × (Nat → Prop))) (fun ⟨s4, v10, A12⟩ => [(0, holds_v), (5, v10)]) (fun ⟨s4, v10, A12⟩ => fun w' => o3 = .fin s4 ∧ Hp B A12 w' (obS (α := Int) 3 v10 s4 :: holds_Y :: L) ∧ Tr Dw B A w A12 w') ?_ ?_
  · refine C_block ?_
    refine C_range ho3 (fun k6 s14 a w' => ∃ i : (Value × (Nat → Prop)), Has ⟨93, [], none⟩ a ([(0, holds_v), (5, i.1), (13, v_lists), (14, .int .i64 (lists.length : Int)), (15, .int .i64 (k6 : Int))]) ∧ Hp B i.2 w' (obS (α := Int) 3 i.1 s14 :: holds_Y :: L) ∧ Tr Dw B A w i.2 w') (fun a ha => ⟨(.slice none 0 0, A), ha.sub ⟨rfl, rfl, rfl, rfl, rfl, trivial⟩, ⟨hH, Tr.refl (Dw := Dw) hA⟩⟩) ?_
    rintro K k6 s14 a w15 ⟨⟨v16, A18⟩, ha104, hH19, hr5⟩ hle23 K26 h25
    refine C_of ?_ ha104
    replace h_lists := Sl.tr (Dw := Dw) h_lists hr5
    replace hK := Tr.trans (Dw := Dw) hK hr5
    replace hB := Nat.le_trans hB hr5.ex.size
    replace hA := hr5.new
    replace hH : Hp B A18 w15 (obS (α := Int) 3 v16 s14 :: holds_Y :: L) := hH19
    refine C_seq (C_region (V_y (Y_lss rfl rfl) rfl rfl rfl (V_to (fun _ _ => rfl) ?_)))
    refine C_seq ?_
    refine C_cond rfl (fun hc28 => ?_) (fun hc28 => ?_)
    · have hlt24 := lt_of_dec hc28
      obtain ⟨x20, h21, h22⟩ := K26 hlt24
      refine C_skip_to (fun _ _ => rfl) ?_
      refine C_seq ?_
      obtain ⟨s30, ho29, h21⟩ := Option.bind_eq_some_iff.1 h21
      refine C_cutG (ι := (Value × (Nat → Prop))) (fun ⟨v32, A37⟩ => [(0, holds_v), (5, v32), (13, v_lists), (14, .int .i64 (lists.length : Int)), (15, .int .i64 (k6 : Int))]) (fun ⟨v32, A37⟩ => fun w' => Hp B A37 w' (obS (α := Int) 3 v32 s30 :: holds_Y :: L) ∧ Tr Dw B A18 w15 A37 w') ?_ ?_
      · have hr31 : Tr Dw B A18 w15 A18 w15 := Tr.refl (Dw := Dw) hA
        refine C_block ?_
        refine C_seq ?_
        refine C_region ?_
        obtain ⟨x39, hx39, ho29⟩ := Option.bind_eq_some_iff.1 ho29
        refine V_indexAddr h_lists hx39 Try.underlying62 Try.sizeOf34 rfl rfl rfl ?_
        intro b40 o41 h42
        obtain ⟨v43, h44, h45⟩ := El.list h42
        refine V_y (Y_load h44 Try.isAgg34 rfl) rfl rfl rfl ?_
        refine V_y (Y_assign rfl) rfl rfl rfl ?_
        refine V_to (fun _ _ => rfl) ?_
        refine C_seq ?_
        refine C_region ?_
        refine V_y (Y_move rfl) rfl rfl rfl ?_
        refine V_y (Y_lenSl h45 rfl Try.underlying34 rfl) rfl rfl rfl ?_
        refine V_y (Y_move rfl) rfl rfl rfl ?_
        refine V_to (fun _ _ => rfl) ?_
        have hn70 := Sl.le h45
        obtain ⟨o46, ho46, ho29⟩ := Option.bind_eq_some_iff.1 ho29
        refine C_cutG (ι := ((List Int) × Value × (Nat → Prop))) (fun ⟨s47, v53, A55⟩ => [(0, holds_v), (5, v53), (13, v_lists), (14, .int .i64 (lists.length : Int)), (15, .int .i64 (k6 : Int))]) (fun ⟨s47, v53, A55⟩ => fun w' => o46 = .fin s47 ∧ Hp B A55 w' (obS (α := Int) 3 v53 s47 :: holds_Y :: L) ∧ Tr Dw B A18 w15 A55 w') ?_ ?_
        · refine C_block ?_
          refine C_range ho46 (fun k49 s57 a w' => ∃ i : (Value × (Nat → Prop)), Has ⟨93, [], none⟩ a ([(0, holds_v), (5, i.1), (13, v_lists), (14, .int .i64 (lists.length : Int)), (15, .int .i64 (k6 : Int)), (19, v43), (20, .int .i64 (x39.length : Int)), (21, .int .i64 (k49 : Int))]) ∧ Hp B i.2 w' (obS (α := Int) 3 i.1 s57 :: holds_Y :: L) ∧ Tr Dw B A18 w15 i.2 w') (fun a ha => ⟨(v16, A18), ha.sub ⟨rfl, rfl, rfl, rfl, rfl, rfl, rfl, rfl, trivial⟩, ⟨hH, Tr.refl (Dw := Dw) hA⟩⟩) ?_
          rintro K k49 s57 a w58 ⟨⟨v59, A61⟩, ha100, hH62, hr48⟩ hle66 K69 h68
          refine C_of ?_ ha100
          replace h_lists := Sl.tr (Dw := Dw) h_lists hr48
          replace h45 := Sl.tr (Dw := Dw) h45 hr48
          replace hK := Tr.trans (Dw := Dw) hK hr48
          replace hr5 := Tr.trans (Dw := Dw) hr5 hr48
          replace hr31 := Tr.trans (Dw := Dw) hr31 hr48
          replace hB := Nat.le_trans hB hr48.ex.size
          replace hA := hr48.new
          replace hH : Hp B A61 w58 (obS (α := Int) 3 v59 s57 :: holds_Y :: L) := hH62
          refine C_seq (C_region (V_y (Y_lss rfl rfl) rfl rfl rfl (V_to (fun _ _ => rfl) ?_)))
          refine C_seq ?_
          refine C_cond rfl (fun hc71 => ?_) (fun hc71 => ?_)
          · have hlt67 := lt_of_dec hc71
            obtain ⟨x63, h64, h65⟩ := K69 hlt67
            refine C_skip_to (fun _ _ => rfl) ?_
            refine C_seq ?_
            refine C_block ?_
            refine C_seq ?_
            refine C_region ?_
            obtain ⟨x72, hx72, h64⟩ := Option.bind_eq_some_iff.1 h64
            refine V_indexAddr h45 hx72 Try.underlying34 Try.sizeOf39 rfl rfl rfl ?_
            intro b73 o74 h75
            obtain ⟨h76, _⟩ := El_cal_Span h75
            refine V_y (Y_loadA h76 Try.isAgg39 Try.sizeOf39 rfl) rfl rfl rfl ?_
            refine V_alloc Try.zeroValue39 rfl ?_
            intro b77 w78 h79
            refine V_storeNew h79 Try.sizeOf39 rfl rfl rfl rfl (by exact (List.forall_mem_cons.2 ⟨rfl, (List.forall_mem_cons.2 ⟨rfl, (fun _ h => nomatch h)⟩)⟩)) ?_
            intro w80 h81
            have hk83 := h81.kp (Dw := Dw)
            have h82 : El (α := cal_Span) A61 w80 b77 0 x72 := h81.el hA ⟨[.int .i64 x72.from_], _, rfl, rfl, rfl⟩
            have ht84 := Kp.tr (Dw := Dw) hk83 hA hB
            replace hH := Hp.kp (Dw := Dw) hH hk83
            replace h_lists := Sl.tr (Dw := Dw) h_lists ht84
            replace h45 := Sl.tr (Dw := Dw) h45 ht84
            replace h75 := El.tr (Dw := Dw) h75 ht84
            replace hK := Tr.trans (Dw := Dw) hK ht84
            replace hr5 := Tr.trans (Dw := Dw) hr5 ht84
            replace hr31 := Tr.trans (Dw := Dw) hr31 ht84
            replace hr48 := Tr.trans (Dw := Dw) hr48 ht84
            replace hB := Nat.le_trans hB ht84.ex.size
            replace hA := ht84.new
            refine V_to (fun _ _ => rfl) ?_
            refine C_region ?_
            refine V_y (Y_move rfl) rfl rfl rfl ?_
            have h85 := El_cal_Span_0 h82
            refine V_y (Y_fieldAddr Try.underlying39 rfl Try.sizeOf3 (by decide) rfl) rfl rfl rfl ?_
            refine V_y (Y_load (El.int h85) Try.isAgg3 rfl) rfl rfl rfl ?_
            have h86 := El_cal_Span_1 h82
            refine V_y (Y_fieldAddr Try.underlying39 rfl Try.sizeOf3 (by decide) rfl) rfl rfl rfl ?_
            refine V_y (Y_load (El.int h86) Try.isAgg3 rfl) rfl rfl rfl ?_
            refine V_buildSlice (Dw := Dw) (l := ([x72.from_, x72.to_] : List Int)) (len := 2) Try.underlying45 Try.sizeOf3 Try.zeroValue3 rfl (by with_unfolding_all rfl) (show (2 * 1 : Nat) ≠ 0 by decide) (show (2 * 1 : Nat) ≤ 2 ^ 24 by decide) hA ⟨[.int .i64 x72.from_], _, rfl, rfl, ⟨[.int .i64 x72.to_], _, rfl, rfl, rfl⟩⟩ rfl rfl ?_
            intro v87 w88 hk90 h89
            have ht91 := Kp.tr (Dw := Dw) hk90 hA hB
            replace hH := Hp.kp (Dw := Dw) hH hk90
            replace h_lists := Sl.tr (Dw := Dw) h_lists ht91
            replace h45 := Sl.tr (Dw := Dw) h45 ht91
            replace h82 := El.tr (Dw := Dw) h82 ht91
            replace h85 := El.tr (Dw := Dw) h85 ht91
            replace h86 := El.tr (Dw := Dw) h86 ht91
            replace hK := Tr.trans (Dw := Dw) hK ht91
            replace hr5 := Tr.trans (Dw := Dw) hr5 ht91
            replace hr31 := Tr.trans (Dw := Dw) hr31 ht91
            replace hr48 := Tr.trans (Dw := Dw) hr48 ht91
            replace hB := Nat.le_trans hB ht91.ex.size
            replace hA := ht91.new
            obtain ⟨x92, hx92, h64⟩ := Option.bind_eq_some_iff.1 h64
            refine V_appendH (Dw := Dw) (e := 3) (v := v59) (l := s57) (ti := Try.t3) (bytes := 8) (lim := 17592186044416) hH (i := 0) rfl h89 hx92 Try.underlying45 Try_info3 rfl rfl rfl rfl (by decide) (by decide) (by decide) hB hA rfl rfl rfl ?_
            intro v93 w94 A95 hH96 ht97
            replace h_lists := Sl.tr (Dw := Dw) h_lists ht97
            replace h45 := Sl.tr (Dw := Dw) h45 ht97
            replace h82 := El.tr (Dw := Dw) h82 ht97
            replace h85 := El.tr (Dw := Dw) h85 ht97
            replace h86 := El.tr (Dw := Dw) h86 ht97
            replace h89 := Sl.tr (Dw := Dw) h89 ht97
            replace hK := Tr.trans (Dw := Dw) hK ht97
            replace hr5 := Tr.trans (Dw := Dw) hr5 ht97
            replace hr31 := Tr.trans (Dw := Dw) hr31 ht97
            replace hr48 := Tr.trans (Dw := Dw) hr48 ht97
            replace hB := Nat.le_trans hB ht97.ex.size
            replace hA := ht97.new
            replace hH : Hp B A95 w94 (obS (α := Int) 3 v93 x92 :: holds_Y :: L) := hH96
            refine V_y (Y_assign rfl) rfl rfl rfl ?_
            refine V_to (fun _ _ => rfl) ?_
            refine C_region ?_
            refine V_y (Y_addI rfl rfl) rfl rfl rfl ?_
            refine V_y (Y_move rfl) rfl rfl rfl ?_
            obtain rfl := Option.some.inj h64
            refine V_end (fun a ha98 => ?_)
            exact ⟨x92, hlt67, h65, ⟨(v93, A95), ha98.sub ⟨rfl, rfl, rfl, rfl, rfl, rfl, rfl, (congrArg (fun z => some (Value.int .i64 z)) (w64_succ hlt67 hn70)), trivial⟩, ⟨hH, hr48⟩⟩⟩
          · refine C_exit (fun a ha99 => ?_)
            exact ⟨(s57, v59, A61), ha99.sub ⟨rfl, rfl, rfl, rfl, rfl, trivial⟩, ⟨(h68 (eq_of_dec hle66 hc71)).symm, hH, hr48⟩⟩
        rintro ⟨s47, v53, A55⟩ w50 ⟨rfl, hH56, hk51⟩ a ha52
        rw [Lp.andThen_fin] at ho29
        replace h_lists := Sl.tr (Dw := Dw) h_lists hk51
        replace hK := Tr.trans (Dw := Dw) hK hk51
        replace hr5 := Tr.trans (Dw := Dw) hr5 hk51
        replace hr31 := Tr.trans (Dw := Dw) hr31 hk51
        replace hB := Nat.le_trans hB hk51.ex.size
        replace hA := hk51.new
        replace hH : Hp B A55 w50 (obS (α := Int) 3 v53 s47 :: holds_Y :: L) := hH56
        obtain rfl := Option.some.inj ho29
        exact ⟨(v53, A55), ha52.sub ⟨rfl, rfl, rfl, rfl, rfl, trivial⟩, ⟨hH, hr31⟩⟩
      rintro ⟨v32, A37⟩ w34 ⟨hH38, hk35⟩ a ha36
      replace h_lists := Sl.tr (Dw := Dw) h_lists hk35
      replace hK := Tr.trans (Dw := Dw) hK hk35
      replace hr5 := Tr.trans (Dw := Dw) hr5 hk35
      replace hB := Nat.le_trans hB hk35.ex.size
      replace hA := hk35.new
      replace hH : Hp B A37 w34 (obS (α := Int) 3 v32 s30 :: holds_Y :: L) := hH38
      refine C_at (n := ⟨93, [], none⟩) (fun _ _ => rfl) ?_ ha36
      refine C_region ?_
      refine V_y (Y_addI rfl rfl) rfl rfl rfl ?_
      refine V_y (Y_move rfl) rfl rfl rfl ?_
      obtain rfl := Option.some.inj h21
      refine V_end (fun a ha102 => ?_)
      exact ⟨s30, hlt24, h22, ⟨(v32, A37), ha102.sub ⟨rfl, rfl, rfl, rfl, (congrArg (fun z => some (Value.int .i64 z)) (w64_succ hlt24 hn27)), trivial⟩, ⟨hH, hr5⟩⟩⟩
    · refine C_exit (fun a ha103 => ?_)
      exact ⟨(s14, v16, A18), ha103.sub ⟨rfl, rfl, trivial⟩, ⟨(h25 (eq_of_dec hle23 hc28)).symm, hH, hr5⟩⟩
  rintro ⟨s4, v10, A12⟩ w7 ⟨rfl, hH13, hk8⟩ a ha9
  rw [Lp.andThen_fin] at hm
  replace hK := Tr.trans (Dw := Dw) hK hk8
  replace hB := Nat.le_trans hB hk8.ex.size
  replace hA := hk8.new
  replace hH : Hp B A12 w7 (obS (α := Int) 3 v10 s4 :: holds_Y :: L) := hH13
  refine C_at (n := ⟨93, [], none⟩) (fun _ _ => rfl) ?_ ha9
  refine C_seq ?_
  refine C_region ?_
  refine V_y (Y_move rfl) rfl rfl rfl ?_
  obtain ⟨x105, hx105, hm⟩ := Option.bind_eq_some_iff.1 hm
  refine V_call Try.call43 rfl rfl rfl rfl (Try_sortInts (Dw := Dw) hH (i := 0) rfl hB hA hx105) ?_
  rintro _ w106 ⟨rfl, hH107, ht108⟩
  replace hK := Tr.trans (Dw := Dw) hK ht108
  replace hB := Nat.le_trans hB ht108.ex.size
  replace hA := ht108.new
  replace hH : Hp B A12 w106 (obS (α := Int) 3 v10 x105 :: holds_Y :: L) := hH107
  refine V_to (fun _ _ => rfl) ?_
  refine C_seq ?_
  refine C_region ?_
  refine V_y (Y_move rfl) rfl rfl rfl ?_
  obtain ⟨x109, hx109, hm⟩ := Option.bind_eq_some_iff.1 hm
  refine V_call Try.call44 rfl rfl rfl rfl (Try_cp44 (Dw := Dw) hH (i := 0) rfl hB hA hx109) ?_
  rintro v113 w110 ⟨_, rfl, hH111, ht112⟩
  replace hK := Tr.trans (Dw := Dw) hK ht112
  replace hB := Nat.le_trans hB ht112.ex.size
  replace hA := ht112.new
  replace hH : Hp B A12 w110 (obS (α := Int) 3 v113 x109 :: holds_Y :: L) := hH111
  refine V_y (Y_assign rfl) rfl rfl rfl ?_
  refine V_to (fun _ _ => rfl) ?_
  refine C_seq ?_
  refine C_region ?_
  refine V_y (Y_assign rfl) rfl rfl rfl ?_
  refine V_to (fun _ _ => rfl) ?_
  refine C_seq ?_
  refine C_seq ?_
  refine C_region ?_
  refine V_y (Y_assign rfl) rfl rfl rfl ?_
  refine V_to (fun _ _ => rfl) ?_
  replace hH : Hp B A12 w110 (obS (α := cal_Span) 39 (.slice none 0 0) ([] : (List cal_Span)) :: obS (α := Int) 3 v113 x109 :: holds_Y :: L) := Hp.addNil (α := cal_Span) (e := 39) hH
  obtain ⟨o114, ho114, hm⟩ := Option.bind_eq_some_iff.1 hm
  refine C_cutG (ι := (((List cal_Span) × Int) × Value × (Nat → Prop))) (fun ⟨s115, v121, A123⟩ => [(10, v121)]) (fun ⟨s115, v121, A123⟩ => fun w' => o114 = .fin s115 ∧ Hp B A123 w' (obS (α := cal_Span) 39 v121 s115.1 :: obS (α := Int) 3 v113 x109 :: holds_Y :: L) ∧ Tr Dw B A12 w110 A123 w') ?_ ?_
  · refine C_block ?_
    refine C_while ho114 (fun s125 a w' => ∃ i : (Value × (Nat → Prop)), Has ⟨93, [], none⟩ a ([(0, holds_v), (5, v113), (10, i.1), (11, .int .i64 s125.2)]) ∧ Hp B i.2 w' (obS (α := cal_Span) 39 i.1 s125.1 :: obS (α := Int) 3 v113 x109 :: holds_Y :: L) ∧ Tr Dw B A12 w110 i.2 w') (fun a ha => ⟨(.slice none 0 0, A12), ha.sub ⟨rfl, rfl, rfl, rfl, trivial⟩, ⟨hH, Tr.refl (Dw := Dw) hA⟩⟩) ?_
    rintro K s125 a w126 ⟨⟨v127, A129⟩, ha230, hH130, hr116⟩ K137
    refine C_of ?_ ha230
    replace hK := Tr.trans (Dw := Dw) hK hr116
    replace hB := Nat.le_trans hB hr116.ex.size
    replace hA := hr116.new
    replace hH : Hp B A129 w126 (obS (α := cal_Span) 39 v127 s125.1 :: obS (α := Int) 3 v113 x109 :: holds_Y :: L) := hH130
    obtain ⟨x131, h132, h133⟩ := K137
    refine C_seq ?_
    refine C_seq ?_
    refine C_region ?_
    refine V_y (Y_move rfl) rfl rfl rfl ?_
    refine V_y (Y_addI rfl rfl) rfl rfl rfl ?_
    refine V_y (Y_move rfl) rfl rfl rfl ?_
    refine V_y (Y_lenSl (Hp.any (α := Int) (e := 3) (v := v113) (l := x109) hH (i := 1) rfl) rfl Try.underlying45 rfl) rfl rfl rfl ?_
    refine V_y (Y_lss rfl rfl) rfl rfl rfl ?_
    refine V_to (fun _ _ => rfl) ?_
    refine C_cond rfl (fun hc138 => ?_) (fun hc138 => ?_)
    · rw [if_pos hc138] at h132
      refine C_skip_to (fun _ _ => rfl) ?_
      refine C_seq ?_
      obtain ⟨s140, ho139, h132⟩ := Option.bind_eq_some_iff.1 h132
      refine C_cutG (ι := (Value × (Nat → Prop))) (fun ⟨v142, A147⟩ => [(0, holds_v), (5, v113), (10, v142), (11, .int .i64 s125.2)]) (fun ⟨v142, A147⟩ => fun w' => Hp B A147 w' (obS (α := cal_Span) 39 v142 s140 :: obS (α := Int) 3 v113 x109 :: holds_Y :: L) ∧ Tr Dw B A129 w126 A147 w') ?_ ?_
      · have hr141 : Tr Dw B A129 w126 A129 w126 := Tr.refl (Dw := Dw) hA
        refine C_block ?_
        refine C_seq ?_
        refine C_seq ?_
        refine C_region ?_
        refine V_y (Y_move rfl) rfl rfl rfl ?_
        refine V_y (Y_move rfl) rfl rfl rfl ?_
        refine V_y (Y_move rfl) rfl rfl rfl ?_
        obtain ⟨x149, hx149, ho139⟩ := Option.bind_eq_some_iff.1 ho139
        refine V_indexAddrH (α := Int) (e := 3) (v := v113) (l := x109) hH (i := 1) rfl hx149 Try.underlying45 Try.sizeOf3 rfl rfl rfl ?_
        intro b150 o151 h152 hl153
        refine V_y (Y_load (El.int h152) Try.isAgg3 rfl) rfl rfl rfl ?_
        obtain ⟨x154, hx154, ho139⟩ := Option.bind_eq_some_iff.1 ho139
        replace hH : Hp B A129 w126 (holds_Y :: obS (α := cal_Span) 39 v127 s125.1 :: obS (α := Int) 3 v113 x109 :: L) := Hp.front hH (i := 2) rfl
        refine V_callV rfl rfl rfl (holds_spec w126 _ _ x149 x154 hB hA hK hH hx154) ?_
        rintro _ w155 ⟨rfl, A156, ht158, hH157⟩
        replace hK := Tr.trans (Dw := Dw) hK ht158
        replace hr116 := Tr.trans (Dw := Dw) hr116 ht158
        replace hr141 := Tr.trans (Dw := Dw) hr141 ht158
        replace hB := Nat.le_trans hB ht158.ex.size
        replace hA := ht158.new
        replace hH : Hp B A156 w155 (holds_Y :: obS (α := cal_Span) 39 v127 s125.1 :: obS (α := Int) 3 v113 x109 :: L) := hH157
        refine V_y (Y_not rfl) rfl rfl rfl ?_
        refine V_to (fun _ _ => rfl) ?_
        refine C_cond rfl (fun hc159 => ?_) (fun hc159 => ?_)
        · rw [if_pos hc159] at ho139
          obtain rfl := Option.some.inj ho139
          refine C_exit (fun a ha160 => ?_)
          replace hH : Hp B A156 w155 (obS (α := Int) 3 v113 x109 :: holds_Y :: obS (α := cal_Span) 39 v127 s125.1 :: L) := Hp.front hH (i := 2) rfl
          replace hH : Hp B A156 w155 (obS (α := cal_Span) 39 v127 s125.1 :: obS (α := Int) 3 v113 x109 :: holds_Y :: L) := Hp.front hH (i := 2) rfl
          exact ⟨(v127, A156), ha160.sub ⟨rfl, rfl, rfl, rfl, trivial⟩, ⟨hH, hr141⟩⟩
        · rw [if_neg (nt hc159)] at ho139
          refine C_skip_to (fun _ _ => rfl) ?_
          refine C_seq ?_
          refine C_region ?_
          refine V_y (Y_move rfl) rfl rfl rfl ?_
          refine V_y (Y_lenSl (Hp.any (α := cal_Span) (e := 39) (v := v127) (l := s125.1) hH (i := 1) rfl) rfl Try.underlying34 rfl) rfl rfl rfl ?_
          refine V_y (Y_assign rfl) rfl rfl rfl ?_
          refine V_to (fun _ _ => rfl) ?_
          refine C_seq ?_
          refine C_region_q (Dw := Dw) Try_mixed (by kernel_rfl) ?_
          refine VQ_y (fun w' hw' => Y_move rfl) rfl rfl rfl ?_
          refine VQ_y (fun w' hw' => Y_gtr rfl rfl) rfl rfl rfl ?_
          refine VQ_y (fun w' hw' => Y_move rfl) rfl rfl rfl ?_
          obtain ⟨s162, hs162, ho139⟩ := Option.bind_eq_some_iff.1 ho139
          refine VQ_cut 12 (fun _ : Unit => [(0, holds_v), (5, v113), (10, v127), (11, .int .i64 s125.2), (12, .int .i64 (s125.1.length : Int)), (68, .bool s162)]) (fun _ => True) ?_ ?_
          · simp only [List.take, List.drop]
            rcases Bool.eq_false_or_eq_true (decide ((0 : Int) < (s125.1.length : Int))) with hc161 | hc161
            · rw [if_pos hc161] at hs162
              refine VQ_ge rfl rfl rfl hc161 ?_
              refine VQ_y (fun w' hw' => Y_move rfl) rfl rfl rfl ?_
              refine VQ_ge rfl rfl rfl hc161 ?_
              refine VQ_y (fun w' hw' => Y_move rfl) rfl rfl rfl ?_
              refine VQ_ge rfl rfl rfl hc161 ?_
              refine VQ_y (fun w' hw' => Y_subI rfl rfl) rfl rfl rfl ?_
              refine VQ_ge rfl rfl rfl hc161 ?_
              obtain ⟨x163, hx163, hs162⟩ := Option.bind_eq_some_iff.1 hs162
              refine VQ_indexAddrH (α := cal_Span) (e := 39) (v := v127) (l := s125.1) hH (i := 1) rfl hx163 Try.underlying34 Try.sizeOf39 rfl rfl rfl ?_
              intro b164 o165 h166 hl167
              refine VQ_ge rfl rfl rfl hc161 ?_
              have h168 := El_cal_Span_1 h166
              refine VQ_y (fun w' hw' => Y_fieldAddr Try.underlying39 rfl Try.sizeOf3 (by decide) rfl) rfl rfl rfl ?_
              refine VQ_ge rfl rfl rfl hc161 ?_
              refine VQ_y (fun w' hw' => Y_load (El.int (El.kp (Dw := Dw) h168 hw')) Try.isAgg3 rfl) rfl rfl rfl ?_
              refine VQ_ge rfl rfl rfl hc161 ?_
              refine VQ_y (fun w' hw' => Y_move rfl) rfl rfl rfl ?_
              refine VQ_ge rfl rfl rfl hc161 ?_
              refine VQ_y (fun w' hw' => Y_move rfl) rfl rfl rfl ?_
              refine VQ_ge rfl rfl rfl hc161 ?_
              refine VQ_indexAddrH (α := Int) (e := 3) (v := v113) (l := x109) hH (i := 2) rfl hx149 Try.underlying45 Try.sizeOf3 rfl rfl rfl ?_
              intro b169 o170 h171 hl172
              refine VQ_ge rfl rfl rfl hc161 ?_
              refine VQ_y (fun w' hw' => Y_load (El.int (El.kp (Dw := Dw) h171 hw')) Try.isAgg3 rfl) rfl rfl rfl ?_
              refine VQ_ge rfl rfl rfl hc161 ?_
              refine VQ_y (fun w' hw' => Y_eql rfl rfl) rfl rfl rfl ?_
              refine VQ_y (fun _ _ => Y_pick_te rfl hc161 rfl) rfl rfl rfl ?_
              obtain rfl := Option.some.inj hs162
              exact VQ_end fun a ha => ⟨(), ha.sub ⟨rfl, rfl, rfl, rfl, rfl, rfl, trivial⟩, trivial⟩
            · rw [if_neg (nt hc161)] at hs162
              refine VQ_gn rfl rfl rfl hc161 rfl rfl rfl ?_
              refine VQ_gn rfl rfl rfl hc161 rfl rfl rfl ?_
              refine VQ_gn rfl rfl rfl hc161 rfl rfl rfl ?_
              refine VQ_gn rfl rfl rfl hc161 rfl rfl rfl ?_
              refine VQ_gn rfl rfl rfl hc161 rfl rfl rfl ?_
              refine VQ_gn rfl rfl rfl hc161 rfl rfl rfl ?_
              refine VQ_gn rfl rfl rfl hc161 rfl rfl rfl ?_
              refine VQ_gn rfl rfl rfl hc161 rfl rfl rfl ?_
              refine VQ_gn rfl rfl rfl hc161 rfl rfl rfl ?_
              refine VQ_gn rfl rfl rfl hc161 rfl rfl rfl ?_
              refine VQ_gn rfl rfl rfl hc161 rfl rfl rfl ?_
              refine VQ_y (fun _ _ => Y_pick_fe rfl hc161 rfl) rfl rfl rfl ?_
              obtain rfl := Option.some.inj hs162
              exact VQ_end fun a ha => ⟨(), ha.sub ⟨rfl, rfl, rfl, rfl, rfl, rfl, trivial⟩, trivial⟩
          simp only [List.take, List.drop]
          rintro _ _
          refine VQ_to (fun _ _ => rfl) (fun w173 hk174 => ?_)
          have ht175 := Kp.tr (Dw := Dw) hk174 hA hB
          replace hH := Hp.kp (Dw := Dw) hH hk174
          replace hK := Tr.trans (Dw := Dw) hK ht175
          replace hr116 := Tr.trans (Dw := Dw) hr116 ht175
          replace hr141 := Tr.trans (Dw := Dw) hr141 ht175
          replace hB := Nat.le_trans hB ht175.ex.size
          replace hA := ht175.new
          obtain ⟨s177, ho176, ho139⟩ := Option.bind_eq_some_iff.1 ho139
          refine C_cutG (ι := (Value × (Nat → Prop))) (fun ⟨v179, A184⟩ => [(0, holds_v), (5, v113), (10, v179), (11, .int .i64 s125.2)]) (fun ⟨v179, A184⟩ => fun w' => Hp B A184 w' (holds_Y :: obS (α := cal_Span) 39 v179 s177 :: obS (α := Int) 3 v113 x109 :: L) ∧ Tr Dw B A156 w173 A184 w') ?_ ?_
          · have hr178 : Tr Dw B A156 w173 A156 w173 := Tr.refl (Dw := Dw) hA
            refine C_cond rfl (fun hc186 => ?_) (fun hc186 => ?_)
            · rw [if_pos hc186] at ho176
              refine C_region ?_
              refine V_y (Y_move rfl) rfl rfl rfl ?_
              refine V_y (Y_move rfl) rfl rfl rfl ?_
              refine V_y (Y_subI rfl rfl) rfl rfl rfl ?_
              refine V_y (Y_move rfl) rfl rfl rfl ?_
              refine V_y (Y_move rfl) rfl rfl rfl ?_
              refine V_y (Y_addI rfl rfl) rfl rfl rfl ?_
              obtain ⟨x187, hx187, ho176⟩ := Option.bind_eq_some_iff.1 ho176
              refine V_indexAddrH (α := Int) (e := 3) (v := v113) (l := x109) hH (i := 2) rfl hx187 Try.underlying45 Try.sizeOf3 rfl rfl rfl ?_
              intro b188 o189 h190 hl191
              refine V_y (Y_load (El.int h190) Try.isAgg3 rfl) rfl rfl rfl ?_
              obtain ⟨x192, hx192, ho176⟩ := Option.bind_eq_some_iff.1 ho176
              refine V_indexAddrH (α := cal_Span) (e := 39) (v := v127) (l := s125.1) hH (i := 1) rfl hx192 Try.underlying34 Try.sizeOf39 rfl rfl rfl ?_
              intro b193 o194 h195 hl196
              have h197 := El_cal_Span_1 h195
              refine V_y (Y_fieldAddr Try.underlying39 rfl Try.sizeOf3 (by decide) rfl) rfl rfl rfl ?_
              obtain ⟨x198, hx198, ho176⟩ := Option.bind_eq_some_iff.1 ho176
              refine V_storeFH (Dw := Dw) (α := cal_Span) (e := 39) (v := v127) (l := s125.1) (foff := 1) hH (i := 1) rfl hl196 hx192 hx198 (fun _ h => by obtain ⟨_, _, rfl, rfl, rfl⟩ := h; exact ⟨[_], _, rfl, rfl, rfl⟩) Try.sizeOf3 rfl (by simp [Value.cells, Value.oneCell']) (by decide) hB hA (congrArg (fun z => some (Value.pointer (some ⟨_, z, none⟩))) (by simp [Nat.add_assoc])) rfl ?_
              intro w199 hH200 ht201
              replace hK := Tr.trans (Dw := Dw) hK ht201
              replace hr116 := Tr.trans (Dw := Dw) hr116 ht201
              replace hr141 := Tr.trans (Dw := Dw) hr141 ht201
              replace hr178 := Tr.trans (Dw := Dw) hr178 ht201
              replace hB := Nat.le_trans hB ht201.ex.size
              replace hA := ht201.new
              replace hH : Hp B A156 w199 (holds_Y :: obS (α := cal_Span) 39 v127 x198 :: obS (α := Int) 3 v113 x109 :: L) := hH200
              obtain rfl := Option.some.inj ho176
              refine V_end (fun a ha202 => ?_)
              exact ⟨(v127, A156), ha202.sub ⟨rfl, rfl, rfl, rfl, trivial⟩, ⟨hH, hr178⟩⟩
            · rw [if_neg (nt hc186)] at ho176
              refine C_region_ch (Dw := Dw) A156 14 [(1, 0), (1, 1), (1, 2), (0, 3), (0, 4), (1, 5), (1, 6), (1, 7), (0, 8), (0, 9), (1, 10), (2, 11), (4, 12), (1, 13)] Try_mixed (by kernel_rfl) (fun w203 hk204 => ?_)
              have ht205 := Kp.tr (Dw := Dw) hk204 hA hB
              replace hH := Hp.kp (Dw := Dw) hH hk204
              replace hK := Tr.trans (Dw := Dw) hK ht205
              replace hr116 := Tr.trans (Dw := Dw) hr116 ht205
              replace hr141 := Tr.trans (Dw := Dw) hr141 ht205
              replace hr178 := Tr.trans (Dw := Dw) hr178 ht205
              replace hB := Nat.le_trans hB ht205.ex.size
              replace hA := ht205.new
              refine CH_q2 (Dw := Dw) rfl ?_
              refine VQ_y (fun w' hw' => Y_move rfl) rfl rfl rfl ?_
              refine VQ_CH (Dw := Dw) ?_
              refine CH_q2 (Dw := Dw) rfl ?_
              refine VQ_y (fun w' hw' => Y_move rfl) rfl rfl rfl ?_
              refine VQ_CH (Dw := Dw) ?_
              refine CH_q2 (Dw := Dw) rfl ?_
              refine VQ_y (fun w' hw' => Y_move rfl) rfl rfl rfl ?_
              refine VQ_CH (Dw := Dw) ?_
              refine CH_q1 (Dw := Dw) rfl ?_
              refine VQ_indexAddrH (α := Int) (e := 3) (v := v113) (l := x109) hH (i := 2) rfl hx149 Try.underlying45 Try.sizeOf3 rfl rfl rfl ?_
              intro b206 o207 h208 hl209
              refine VQ_CH (Dw := Dw) ?_
              refine CH_q1 (Dw := Dw) rfl ?_
              refine VQ_y (fun w' hw' => Y_load (El.int (El.kp (Dw := Dw) h208 hw')) Try.isAgg3 rfl) rfl rfl rfl ?_
              refine VQ_CH (Dw := Dw) ?_
              refine CH_q2 (Dw := Dw) rfl ?_
              refine VQ_y (fun w' hw' => Y_move rfl) rfl rfl rfl ?_
              refine VQ_CH (Dw := Dw) ?_
              refine CH_q2 (Dw := Dw) rfl ?_
              refine VQ_y (fun w' hw' => Y_move rfl) rfl rfl rfl ?_
              refine VQ_CH (Dw := Dw) ?_
              refine CH_q2 (Dw := Dw) rfl ?_
              refine VQ_y (fun w' hw' => Y_addI rfl rfl) rfl rfl rfl ?_
              refine VQ_CH (Dw := Dw) ?_
              refine CH_q1 (Dw := Dw) rfl ?_
              obtain ⟨x210, hx210, ho176⟩ := Option.bind_eq_some_iff.1 ho176
              refine VQ_indexAddrH (α := Int) (e := 3) (v := v113) (l := x109) hH (i := 2) rfl hx210 Try.underlying45 Try.sizeOf3 rfl rfl rfl ?_
              intro b211 o212 h213 hl214
              refine VQ_CH (Dw := Dw) ?_
              refine CH_q1 (Dw := Dw) rfl ?_
              refine VQ_y (fun w' hw' => Y_load (El.int (El.kp (Dw := Dw) h213 hw')) Try.isAgg3 rfl) rfl rfl rfl ?_
              refine VQ_CH (Dw := Dw) ?_
              refine CH_q2 (Dw := Dw) rfl ?_
              refine VQ_y (fun w' hw' => Y_build Try.underlying39 Try.zeroValue39 (Try_places39 _ Try.underlying39) rfl (by with_unfolding_all rfl)) rfl rfl rfl ?_
              refine VQ_CH (Dw := Dw) ?_
              refine CH_l1 (Dw := Dw) (k := 0) rfl ?_
              refine V_buildSlice (Dw := Dw) (cells := #[.int .i64 x149, .int .i64 x210]) (l := ([(⟨x149, x210⟩ : cal_Span)] : List cal_Span)) (len := 1) Try.underlying34 Try.sizeOf39 Try.zeroValue39 rfl (by kernel_rfl) (show (1 * 2 : Nat) ≠ 0 by decide) (show (1 * 2 : Nat) ≤ 2 ^ 24 by decide) hA ⟨[.int .i64 x149, .int .i64 x210], _, rfl, ⟨[.int .i64 x149], _, rfl, rfl, rfl⟩, rfl⟩ rfl rfl ?_
              intro v215 w216 hk218 h217
              have ht219 := Kp.tr (Dw := Dw) hk218 hA hB
              replace hH := Hp.kp (Dw := Dw) hH hk218
              replace h208 := El.kp (Dw := Dw) h208 hk218
              replace h213 := El.kp (Dw := Dw) h213 hk218
              replace hK := Tr.trans (Dw := Dw) hK ht219
              replace hr116 := Tr.trans (Dw := Dw) hr116 ht219
              replace hr141 := Tr.trans (Dw := Dw) hr141 ht219
              replace hr178 := Tr.trans (Dw := Dw) hr178 ht219
              replace hB := Nat.le_trans hB ht219.ex.size
              replace hA := ht219.new
              refine V_CH (Dw := Dw) (hk218) ?_
              refine CH_l1 (Dw := Dw) (k := 2) rfl ?_
              obtain ⟨x220, hx220, ho176⟩ := Option.bind_eq_some_iff.1 ho176
              refine V_appendH (Dw := Dw) (e := 39) (v := v127) (l := s125.1) (ti := Try.t39) (bytes := 16) (lim := 8796093022208) hH (i := 1) rfl h217 hx220 Try.underlying34 Try_info39 rfl rfl rfl rfl (by decide) (by decide) (by decide) hB hA rfl rfl rfl ?_
              intro v221 w222 A223 hH224 ht225
              replace h217 := Sl.tr (Dw := Dw) h217 ht225
              replace hK := Tr.trans (Dw := Dw) hK ht225
              replace hr116 := Tr.trans (Dw := Dw) hr116 ht225
              replace hr141 := Tr.trans (Dw := Dw) hr141 ht225
              replace hr178 := Tr.trans (Dw := Dw) hr178 ht225
              replace hB := Nat.le_trans hB ht225.ex.size
              replace hA := ht225.new
              replace hH : Hp B A223 w222 (holds_Y :: obS (α := cal_Span) 39 v221 x220 :: obS (α := Int) 3 v113 x109 :: L) := hH224
              refine V_CHw (Dw := Dw) ?_
              refine CH_q2 (Dw := Dw) rfl ?_
              refine VQ_y (fun w' hw' => Y_assign rfl) rfl rfl rfl ?_
              refine VQ_CH (Dw := Dw) ?_
              refine CH_tail (Dw := Dw) ?_
              show V _ _ _ _ [] _ _
              obtain rfl := Option.some.inj ho176
              refine V_end (fun a ha226 => ?_)
              exact ⟨(v221, A223), ha226.sub ⟨rfl, rfl, rfl, rfl, trivial⟩, ⟨hH, hr178⟩⟩
          rintro ⟨v179, A184⟩ w181 ⟨hH185, hk182⟩ a ha183
          replace hK := Tr.trans (Dw := Dw) hK hk182
          replace hr116 := Tr.trans (Dw := Dw) hr116 hk182
          replace hr141 := Tr.trans (Dw := Dw) hr141 hk182
          replace hB := Nat.le_trans hB hk182.ex.size
          replace hA := hk182.new
          replace hH : Hp B A184 w181 (holds_Y :: obS (α := cal_Span) 39 v179 s177 :: obS (α := Int) 3 v113 x109 :: L) := hH185
          obtain rfl := Option.some.inj ho139
          replace hH : Hp B A184 w181 (obS (α := Int) 3 v113 x109 :: holds_Y :: obS (α := cal_Span) 39 v179 s177 :: L) := Hp.front hH (i := 2) rfl
          replace hH : Hp B A184 w181 (obS (α := cal_Span) 39 v179 s177 :: obS (α := Int) 3 v113 x109 :: holds_Y :: L) := Hp.front hH (i := 2) rfl
          exact ⟨(v179, A184), ha183.sub ⟨rfl, rfl, rfl, rfl, trivial⟩, ⟨hH, hr141⟩⟩
      rintro ⟨v142, A147⟩ w144 ⟨hH148, hk145⟩ a ha146
      replace hK := Tr.trans (Dw := Dw) hK hk145
      replace hr116 := Tr.trans (Dw := Dw) hr116 hk145
      replace hB := Nat.le_trans hB hk145.ex.size
      replace hA := hk145.new
      replace hH : Hp B A147 w144 (obS (α := cal_Span) 39 v142 s140 :: obS (α := Int) 3 v113 x109 :: holds_Y :: L) := hH148
      refine C_at (n := ⟨93, [], none⟩) (fun _ _ => rfl) ?_ ha146
      refine C_region ?_
      refine V_y (Y_move rfl) rfl rfl rfl ?_
      refine V_y (Y_addI rfl rfl) rfl rfl rfl ?_
      refine V_y (Y_assign rfl) rfl rfl rfl ?_
      obtain rfl := Option.some.inj h132
      refine V_end (fun a ha228 => ?_)
      exact ⟨(s140, w64 (s125.2 + 1)), h133, ⟨(v142, A147), ha228.sub ⟨rfl, rfl, rfl, rfl, trivial⟩, ⟨hH, hr116⟩⟩⟩
    · rw [if_neg (nt hc138)] at h132
      obtain rfl := Option.some.inj h132
      refine C_exit (fun a ha229 => ?_)
      exact ⟨((s125.1, s125.2), v127, A129), ha229.sub ⟨rfl, trivial⟩, ⟨h133.symm, hH, hr116⟩⟩
  rintro ⟨s115, v121, A123⟩ w118 ⟨rfl, hH124, hk119⟩ a ha120
  rw [Lp.andThen_fin] at hm
  replace hK := Tr.trans (Dw := Dw) hK hk119
  replace hB := Nat.le_trans hB hk119.ex.size
  replace hA := hk119.new
  replace hH : Hp B A123 w118 (obS (α := cal_Span) 39 v121 s115.1 :: obS (α := Int) 3 v113 x109 :: holds_Y :: L) := hH124
  refine C_at (n := ⟨93, [], none⟩) (fun _ _ => rfl) ?_ ha120
  refine C_seq ?_
  refine C_region ?_
  refine V_y (Y_move rfl) rfl rfl rfl ?_
  refine V_y (Y_assign rfl) rfl rfl rfl ?_
  refine V_to (fun _ _ => rfl) ?_
  obtain rfl := Option.some.inj hm
  replace hH : Hp B A123 w118 (holds_Y :: obS (α := cal_Span) 39 v121 s115.1 :: obS (α := Int) 3 v113 x109 :: L) := Hp.front hH (i := 2) rfl
  replace hH : Hp B A123 w118 (obS (α := cal_Span) 39 v121 s115.1 :: holds_Y :: obS (α := Int) 3 v113 x109 :: L) := Hp.front hH (i := 1) rfl
  replace hH : Hp B A123 w118 (obS (α := cal_Span) 39 v121 s115.1 :: holds_Y :: L) := Hp.drop hH (i := 2) rfl
  refine C_ret ?_
  try simp only [↓inBlock_ret, ↓then_ret]
  exact retQ rfl (Res.one Try.results32 rfl) ⟨v121, A123, rfl, hH, hK⟩

set_option maxRecDepth 4000 in
set_option maxHeartbeats 4000000 in
theorem slices_IndexFunc_Lcal_Span_cal_Span_c (w : World) {A : Nat → Prop} (hA : ∀ b, w.heap.size ≤ b → A b) (s : (List cal_Span)) (v_s : Value) (h_s : Sl A w v_s s) (f : cal_Span → Option Bool) (f_f : FuncId) (f_a f_c : Array Value) (f_call : ∀ (args : Array Value) (w : World), (callFunc f_f args).run Try.prog w = .ok (.enter f_f args) w) (f_spec : ∀ (w1 : World) (A1 : Nat → Prop), Tr Dw w.heap.size A w A1 w1 → (∀ b, w1.heap.size ≤ b → A1 b) → ∀ (y0 : cal_Span) (r : Bool), f y0 = some r → Ret Try.prog f_f (f_a ++ #[.agg #[.int .i64 y0.from_, .int .i64 y0.to_]] ++ f_c) w1 fun v w' => v = .bool r ∧ Kp Dw w1 w') {r : Int} (hm : slices_IndexFunc_Lcal_Span_cal_Span s f = some r) : Ret Try.prog 59 #[v_s, .func (.func f_f) f_a f_c] w fun v w' => v = .int .i64 r ∧ Kp Dw w w' := by
  unfold slices_IndexFunc_Lcal_Span_cal_Span at hm
  refine enter Try.func59 rfl Try.ntmps59 rfl ?_
  have hA0 := hA
  have hB := Nat.le_refl w.heap.size
  have hK : Tr Dw w.heap.size A w A w := Tr.refl (Dw := Dw) hA
  have hH : Hp w.heap.size A w [] := Hp.nil
  refine C_seq ?_
  refine C_region ?_
  refine V_y (Y_assign rfl) rfl rfl rfl ?_
  refine V_to (fun _ _ => rfl) ?_
  refine C_seq ?_
  refine C_seq ?_
  refine C_region ?_
  refine V_y (Y_move rfl) rfl rfl rfl ?_
  refine V_y (Y_lenSl h_s rfl Try.underlying34 rfl) rfl rfl rfl ?_
  refine V_y (Y_move rfl) rfl rfl rfl ?_
  refine V_to (fun _ _ => rfl) ?_
  have hn23 := Sl.le h_s
  obtain ⟨o3, ho3, hm⟩ := Option.bind_eq_some_iff.1 hm
  refine C_cutG (ι := (Unit × (Nat → Prop))) (fun ⟨s4, A10⟩ => []) (fun ⟨s4, A10⟩ => fun w' => o3 = .fin s4 ∧ Hp w.heap.size A10 w' ([]) ∧ Tr Dw w.heap.size A w A10 w') ?_ ?_
  · refine C_block ?_
    refine C_range ho3 (fun k6 _ a w' => ∃ i : (Nat → Prop), Has ⟨19, [], none⟩ a ([(0, v_s), (1, .func (.func f_f) f_a f_c), (7, .int .i64 (s.length : Int)), (8, .int .i64 (k6 : Int))]) ∧ Hp w.heap.size i w' ([]) ∧ Tr Dw w.heap.size A w i w') (fun a ha => ⟨A, ha.sub ⟨rfl, rfl, rfl, rfl, trivial⟩, ⟨hH, Tr.refl (Dw := Dw) hA⟩⟩) ?_
    rintro K k6 _ a w13 ⟨A14, ha37, hH15, hr5⟩ hle19 K22 h21
    refine C_of ?_ ha37
    replace h_s := Sl.tr (Dw := Dw) h_s hr5
    replace hK := Tr.trans (Dw := Dw) hK hr5
    replace hB := Nat.le_trans hB hr5.ex.size
    replace hA := hr5.new
    replace hH : Hp w.heap.size A14 w13 ([]) := hH15
    refine C_seq (C_region (V_y (Y_lss rfl rfl) rfl rfl rfl (V_to (fun _ _ => rfl) ?_)))
    refine C_seq ?_
    refine C_cond rfl (fun hc24 => ?_) (fun hc24 => ?_)
    · have hlt20 := lt_of_dec hc24
      obtain ⟨x16, h17, h18⟩ := K22 hlt20
      refine C_skip_to (fun _ _ => rfl) ?_
      refine C_seq ?_
      refine C_block ?_
      refine C_seq ?_
      refine C_region ?_
      refine V_y (Y_move rfl) rfl rfl rfl ?_
      refine V_y (Y_assign rfl) rfl rfl rfl ?_
      refine V_to (fun _ _ => rfl) ?_
      refine C_seq ?_
      refine C_region ?_
      refine V_y (Y_move rfl) rfl rfl rfl ?_
      refine V_y (Y_move rfl) rfl rfl rfl ?_
      refine V_y (Y_move rfl) rfl rfl rfl ?_
      obtain ⟨x25, hx25, h17⟩ := Option.bind_eq_some_iff.1 h17
      refine V_indexAddr h_s hx25 Try.underlying34 Try.sizeOf39 rfl rfl rfl ?_
      intro b26 o27 h28
      obtain ⟨h29, _⟩ := El_cal_Span h28
      refine V_y (Y_loadA h29 Try.isAgg39 Try.sizeOf39 rfl) rfl rfl rfl ?_
      obtain ⟨x30, hx30, h17⟩ := Option.bind_eq_some_iff.1 h17
      refine V_call f_call rfl rfl rfl rfl (f_spec w13 _ hK hA x25 _ hx30) ?_
      rintro _ w31 ⟨rfl, hk32⟩
      have ht33 := Kp.tr (Dw := Dw) hk32 hA hB
      replace hH := Hp.kp (Dw := Dw) hH hk32
      replace h_s := Sl.tr (Dw := Dw) h_s ht33
      replace h28 := El.tr (Dw := Dw) h28 ht33
      replace hK := Tr.trans (Dw := Dw) hK ht33
      replace hr5 := Tr.trans (Dw := Dw) hr5 ht33
      replace hB := Nat.le_trans hB ht33.ex.size
      replace hA := ht33.new
      refine V_to (fun _ _ => rfl) ?_
      refine C_cond rfl (fun hc34 => ?_) (fun hc34 => ?_)
      · rw [if_pos hc34] at h17
        refine C_seq ?_
        refine C_region ?_
        refine V_y (Y_move rfl) rfl rfl rfl ?_
        refine V_y (Y_assign rfl) rfl rfl rfl ?_
        refine V_to (fun _ _ => rfl) ?_
        obtain rfl := Option.some.inj h17
        obtain rfl := (h18 : Lp.rt _ = _)
        rw [Lp.andThen_rt] at hm
        obtain rfl := Option.some.inj hm
        refine C_ret ?_
        try simp only [↓inBlock_ret, ↓then_ret]
        exact retQ rfl (Res.one Try.results59 rfl) ⟨rfl, hK.kp⟩
      · rw [if_neg (nt hc34)] at h17
        refine C_skip_to (fun _ _ => rfl) ?_
        refine C_region ?_
        refine V_y (Y_addI rfl rfl) rfl rfl rfl ?_
        refine V_y (Y_move rfl) rfl rfl rfl ?_
        obtain rfl := Option.some.inj h17
        refine V_end (fun a ha35 => ?_)
        exact ⟨(), hlt20, h18, ⟨A14, ha35.sub ⟨rfl, rfl, rfl, (congrArg (fun z => some (Value.int .i64 z)) (w64_succ hlt20 hn23)), trivial⟩, ⟨hH, hr5⟩⟩⟩
    · refine C_exit (fun a ha36 => ?_)
      exact ⟨((), A14), ha36.sub trivial, ⟨(h21 (eq_of_dec hle19 hc24)).symm, hH, hr5⟩⟩
  rintro ⟨s4, A10⟩ w7 ⟨rfl, hH11, hk8⟩ a ha9
  rw [Lp.andThen_fin] at hm
  replace hK := Tr.trans (Dw := Dw) hK hk8
  replace hB := Nat.le_trans hB hk8.ex.size
  replace hA := hk8.new
  replace hH : Hp w.heap.size A10 w7 ([]) := hH11
  refine C_at (n := ⟨19, [], none⟩) (fun _ _ => rfl) ?_ ha9
  refine C_seq ?_
  refine C_region ?_
  refine V_y (Y_assign rfl) rfl rfl rfl ?_
  refine V_to (fun _ _ => rfl) ?_
  obtain rfl := Option.some.inj hm
  refine C_ret ?_
  try simp only [↓inBlock_ret, ↓then_ret]
  exact retQ rfl (Res.one Try.results59 rfl) ⟨rfl, hK.kp⟩

set_option maxRecDepth 4000 in
set_option maxHeartbeats 4000000 in
theorem slices_ContainsFunc_Lcal_Span_cal_Span_c (w : World) {A : Nat → Prop} (hA : ∀ b, w.heap.size ≤ b → A b) (s : (List cal_Span)) (v_s : Value) (h_s : Sl A w v_s s) (f : cal_Span → Option Bool) (f_f : FuncId) (f_a f_c : Array Value) (f_call : ∀ (args : Array Value) (w : World), (callFunc f_f args).run Try.prog w = .ok (.enter f_f args) w) (f_spec : ∀ (w1 : World) (A1 : Nat → Prop), Tr Dw w.heap.size A w A1 w1 → (∀ b, w1.heap.size ≤ b → A1 b) → ∀ (y0 : cal_Span) (r : Bool), f y0 = some r → Ret Try.prog f_f (f_a ++ #[.agg #[.int .i64 y0.from_, .int .i64 y0.to_]] ++ f_c) w1 fun v w' => v = .bool r ∧ Kp Dw w1 w') {r : Bool} (hm : slices_ContainsFunc_Lcal_Span_cal_Span s f = some r) : Ret Try.prog 45 #[v_s, .func (.func f_f) f_a f_c] w fun v w' => v = .bool r ∧ Kp Dw w w' := by
  unfold slices_ContainsFunc_Lcal_Span_cal_Span at hm
  refine enter Try.func45 rfl Try.ntmps45 rfl ?_
  have hA0 := hA
  have hB := Nat.le_refl w.heap.size
  have hK : Tr Dw w.heap.size A w A w := Tr.refl (Dw := Dw) hA
  have hH : Hp w.heap.size A w [] := Hp.nil
  refine C_seq ?_
  refine C_region ?_
  refine V_y (Y_assign rfl) rfl rfl rfl ?_
  refine V_to (fun _ _ => rfl) ?_
  refine C_seq ?_
  refine C_region ?_
  refine V_y (Y_move rfl) rfl rfl rfl ?_
  refine V_y (Y_move rfl) rfl rfl rfl ?_
  obtain ⟨x3, hx3, hm⟩ := Option.bind_eq_some_iff.1 hm
  refine V_call Try.call59 rfl rfl rfl rfl (slices_IndexFunc_Lcal_Span_cal_Span_c (Dw := Dw) w hA s v_s h_s f f_f f_a f_c f_call (fun w1 A1 ht => f_spec w1 A1 (Tr.trans (Dw := Dw) hK ht)) hx3) ?_
  rintro _ w4 ⟨rfl, hk5⟩
  have ht6 := Kp.tr (Dw := Dw) hk5 hA hB
  replace hH := Hp.kp (Dw := Dw) hH hk5
  replace h_s := Sl.tr (Dw := Dw) h_s ht6
  replace hK := Tr.trans (Dw := Dw) hK ht6
  replace hB := Nat.le_trans hB ht6.ex.size
  replace hA := ht6.new
  refine V_y (Y_geq rfl rfl) rfl rfl rfl ?_
  refine V_y (Y_assign rfl) rfl rfl rfl ?_
  refine V_to (fun _ _ => rfl) ?_
  obtain rfl := Option.some.inj hm
  refine C_ret ?_
  try simp only [↓inBlock_ret, ↓then_ret]
  exact retQ rfl (Res.one Try.results45 rfl) ⟨rfl, hK.kp⟩

set_option maxRecDepth 4000 in
set_option maxHeartbeats 4000000 in
theorem portref2_within_1_c (w : World) {A : Nat → Prop} (hA : ∀ b, w.heap.size ≤ b → A b) (s : cal_Span) (p1 : Int) (b_p1 : Nat) (h_p1 : El A w b_p1 0 p1) {r : Bool} (hm : portref2_within_1 s p1 = some r) : Ret Try.prog 46 #[.agg #[.int .i64 s.from_, .int .i64 s.to_], .pointer (some ⟨b_p1, 0, none⟩)] w fun v w' => v = .bool r ∧ Kp Dw w w' := by
  unfold portref2_within_1 at hm
  refine enter Try.func46 rfl Try.ntmps46 rfl ?_
  have hA0 := hA
  have hB := Nat.le_refl w.heap.size
  have hK : Tr Dw w.heap.size A w A w := Tr.refl (Dw := Dw) hA
  have hH : Hp w.heap.size A w [] := Hp.nil
  refine C_seq ?_
  refine C_region ?_
  refine V_box rfl rfl ?_
  intro b1 w2 h3
  have hk5 := h3.kp (Dw := Dw)
  have h4 : El (α := cal_Span) A w2 b1 0 s := h3.el hA ⟨[.int .i64 s.from_], _, rfl, rfl, rfl⟩
  have ht6 := Kp.tr (Dw := Dw) hk5 hA hB
  replace hH := Hp.kp (Dw := Dw) hH hk5
  replace h_p1 := El.tr (Dw := Dw) h_p1 ht6
  replace hK := Tr.trans (Dw := Dw) hK ht6
  replace hB := Nat.le_trans hB ht6.ex.size
  replace hA := ht6.new
  refine V_y (Y_assign rfl) rfl rfl rfl ?_
  refine V_to (fun _ _ => rfl) ?_
  refine C_seq ?_
  refine C_region ?_
  have h7 := El_cal_Span_0 h4
  refine V_y (Y_fieldAddr Try.underlying39 rfl Try.sizeOf3 (by decide) rfl) rfl rfl rfl ?_
  refine V_y (Y_load (El.int h7) Try.isAgg3 rfl) rfl rfl rfl ?_
  refine V_y (Y_load (El.int h_p1) Try.isAgg3 rfl) rfl rfl rfl ?_
  refine V_y (Y_leq rfl rfl) rfl rfl rfl ?_
  refine V_y (Y_move rfl) rfl rfl rfl ?_
  refine V_cut 5 (fun _ : Unit => [(13, .bool ((decide (s.from_ ≤ p1)) && (decide (p1 < s.to_))))]) (fun _ w' => w2 = w') ?_ ?_
  · simp only [List.take, List.drop]
    rcases Bool.eq_false_or_eq_true (decide (s.from_ ≤ p1)) with hc8 | hc8
    · refine V_ge rfl rfl rfl hc8 ?_
      refine V_y (Y_load (El.int h_p1) Try.isAgg3 rfl) rfl rfl rfl ?_
      refine V_ge rfl rfl rfl hc8 ?_
      have h10 := El_cal_Span_1 h4
      refine V_y (Y_fieldAddr Try.underlying39 rfl Try.sizeOf3 (by decide) rfl) rfl rfl rfl ?_
      refine V_ge rfl rfl rfl hc8 ?_
      refine V_y (Y_load (El.int h10) Try.isAgg3 rfl) rfl rfl rfl ?_
      refine V_ge rfl rfl rfl hc8 ?_
      refine V_y (Y_lss rfl rfl) rfl rfl rfl ?_
      refine V_y (Y_pick_te rfl hc8 rfl) rfl rfl rfl ?_
      exact V_end fun a ha => ⟨(), ha.sub ⟨(by rw [hc8]; rfl), trivial⟩, rfl⟩
    · refine V_gn rfl rfl rfl hc8 rfl rfl rfl ?_
      refine V_gn rfl rfl rfl hc8 rfl rfl rfl ?_
      refine V_gn rfl rfl rfl hc8 rfl rfl rfl ?_
      refine V_gn rfl rfl rfl hc8 rfl rfl rfl ?_
      refine V_y (Y_pick_fe rfl hc8 rfl) rfl rfl rfl ?_
      exact V_end fun a ha => ⟨(), ha.sub ⟨(by rw [hc8]; rfl), trivial⟩, rfl⟩
  simp only [List.take, List.drop]
  rintro _ _ rfl
  refine V_y (Y_assign rfl) rfl rfl rfl ?_
  refine V_to (fun _ _ => rfl) ?_
  obtain rfl := Option.some.inj hm
  refine C_ret ?_
  try simp only [↓inBlock_ret, ↓then_ret]
  exact retQ rfl (Res.one Try.results46 rfl) ⟨rfl, hK.kp⟩

set_option maxRecDepth 4000 in
set_option maxHeartbeats 4000000 in
theorem portref2_within_c (w : World) {A : Nat → Prop} (hA : ∀ b, w.heap.size ≤ b → A b) (l : (List cal_Span)) (v_l : Value) (h_l : Sl A w v_l l) (m : Int) {r : Bool} (hm : portref2_within l m = some r) : Ret Try.prog 34 #[v_l, .int .i64 m] w fun v w' => v = .bool r ∧ Kp Dw w w' := by
  unfold portref2_within at hm
  refine enter Try.func34 rfl Try.ntmps34 rfl ?_
  have hA0 := hA
  have hB := Nat.le_refl w.heap.size
  have hK : Tr Dw w.heap.size A w A w := Tr.refl (Dw := Dw) hA
  have hH : Hp w.heap.size A w [] := Hp.nil
  refine C_seq ?_
  refine C_region ?_
  refine V_box rfl rfl ?_
  intro b3 w4 h5
  have hk7 := h5.kp (Dw := Dw)
  have h6 : El (α := Int) A w4 b3 0 m := h5.el hA rfl
  have ht8 := Kp.tr (Dw := Dw) hk7 hA hB
  replace hH := Hp.kp (Dw := Dw) hH hk7
  replace h_l := Sl.tr (Dw := Dw) h_l ht8
  replace hK := Tr.trans (Dw := Dw) hK ht8
  replace hB := Nat.le_trans hB ht8.ex.size
  replace hA := ht8.new
  refine V_y (Y_assign rfl) rfl rfl rfl ?_
  refine V_to (fun _ _ => rfl) ?_
  refine C_seq ?_
  refine C_region ?_
  refine V_y (Y_move rfl) rfl rfl rfl ?_
  refine V_y (Y_makeFunc rfl rfl) rfl rfl rfl ?_
  obtain ⟨x10, hx10, hm⟩ := Option.bind_eq_some_iff.1 hm
  refine V_call Try.call45 rfl rfl rfl rfl (slices_ContainsFunc_Lcal_Span_cal_Span_c (Dw := Dw) w4 hA l v_l h_l (fun y18 => portref2_within_1 y18 m) 46 #[] #[.pointer (some ⟨b3, 0, none⟩)] Try.call46 (fun w14 A15 ht16 h17 y11 r12 h13 => (portref2_within_1_c (Dw := Dw) w14 h17 y11 m b3 (El.tr (Dw := Dw) h6 ht16) h13).mono (fun _ _ h => ⟨h.1, h.2⟩)) hx10) ?_
  rintro _ w19 ⟨rfl, hk20⟩
  have ht21 := Kp.tr (Dw := Dw) hk20 hA hB
  replace hH := Hp.kp (Dw := Dw) hH hk20
  replace h_l := Sl.tr (Dw := Dw) h_l ht21
  replace h6 := El.tr (Dw := Dw) h6 ht21
  replace hK := Tr.trans (Dw := Dw) hK ht21
  replace hB := Nat.le_trans hB ht21.ex.size
  replace hA := ht21.new
  refine V_y (Y_assign rfl) rfl rfl rfl ?_
  refine V_to (fun _ _ => rfl) ?_
  obtain rfl := Option.some.inj hm
  refine C_ret ?_
  try simp only [↓inBlock_ret, ↓then_ret]
  exact retQ rfl (Res.one Try.results34 rfl) ⟨rfl, hK.kp⟩

set_option maxRecDepth 4000 in
set_option maxHeartbeats 4000000 in
theorem portref2_NormalOf_1_c (w : World) {A : Nat → Prop} (hA : ∀ b, w.heap.size ≤ b → A b) (m : Int) (p1 : (List cal_Span)) (b_p1 : Nat) (h_p1 : El A w b_p1 0 p1) {r : Bool} (hm : portref2_NormalOf_1 m p1 = some r) : Ret Try.prog 33 #[.int .i64 m, .pointer (some ⟨b_p1, 0, none⟩)] w fun v w' => v = .bool r ∧ Kp Dw w w' := by
  unfold portref2_NormalOf_1 at hm
  refine enter Try.func33 rfl Try.ntmps33 rfl ?_
  have hA0 := hA
  have hB := Nat.le_refl w.heap.size
  have hK : Tr Dw w.heap.size A w A w := Tr.refl (Dw := Dw) hA
  have hH : Hp w.heap.size A w [] := Hp.nil
  refine C_seq ?_
  refine C_region ?_
  refine V_y (Y_assign rfl) rfl rfl rfl ?_
  refine V_to (fun _ _ => rfl) ?_
  refine C_seq ?_
  refine C_region ?_
  obtain ⟨v1, h2, h3⟩ := El.list h_p1
  refine V_y (Y_load h2 Try.isAgg34 rfl) rfl rfl rfl ?_
  refine V_y (Y_move rfl) rfl rfl rfl ?_
  obtain ⟨x4, hx4, hm⟩ := Option.bind_eq_some_iff.1 hm
  refine V_call Try.call34 rfl rfl rfl rfl (portref2_within_c (Dw := Dw) w hA p1 v1 h3 m hx4) ?_
  rintro _ w5 ⟨rfl, hk6⟩
  have ht7 := Kp.tr (Dw := Dw) hk6 hA hB
  replace hH := Hp.kp (Dw := Dw) hH hk6
  replace h_p1 := El.tr (Dw := Dw) h_p1 ht7
  replace h3 := Sl.tr (Dw := Dw) h3 ht7
  replace hK := Tr.trans (Dw := Dw) hK ht7
  replace hB := Nat.le_trans hB ht7.ex.size
  replace hA := ht7.new
  refine V_y (Y_assign rfl) rfl rfl rfl ?_
  refine V_to (fun _ _ => rfl) ?_
  obtain rfl := Option.some.inj hm
  refine C_ret ?_
  try simp only [↓inBlock_ret, ↓then_ret]
  exact retQ rfl (Res.one Try.results33 rfl) ⟨rfl, hK.kp⟩

set_option maxRecDepth 4000 in
set_option maxHeartbeats 4000000 in
theorem portref2_NormalOf_c (w : World) {A : Nat → Prop} (hA : ∀ b, w.heap.size ≤ b → A b) (l : (List cal_Span)) (v_l : Value) (h_l : Sl A w v_l l) {r : ((List cal_Span) × Int)} (hm : portref2_NormalOf l = some r) : Ret Try.prog 9 #[v_l] w fun v w' => ∃ s0, v = .tuple #[s0, .int .i64 r.2] ∧ Ownd 39 w w' s0 r.1 ∧ Kp Dw w w' := by
  unfold portref2_NormalOf at hm
  refine enter Try.func9 rfl Try.ntmps9 rfl ?_
  have hA0 := hA
  have hB := Nat.le_refl w.heap.size
  have hK : Tr Dw w.heap.size A w A w := Tr.refl (Dw := Dw) hA
  have hH : Hp w.heap.size A w [] := Hp.nil
  refine C_seq ?_
  refine C_region ?_
  refine V_box rfl rfl ?_
  intro b3 w4 h5
  have h10 : (v_l).oneCell' = true := by obtain ⟨_, _, e, _⟩ := Sl.form h_l; rw [e]; rfl
  have hk7 := h5.kp (Dw := Dw)
  have h6 : El (α := (List cal_Span)) A w4 b3 0 l := h5.el hA (by rw [Value.cells_one h10]; exact ⟨_, rfl, h_l⟩)
  have ht11 := Kp.tr (Dw := Dw) hk7 hA hB
  replace hH := Hp.kp (Dw := Dw) hH hk7
  replace h_l := Sl.tr (Dw := Dw) h_l ht11
  replace hK := Tr.trans (Dw := Dw) hK ht11
  replace hB := Nat.le_trans hB ht11.ex.size
  replace hA := ht11.new
  refine V_y (Y_assign rfl) rfl rfl rfl ?_
  refine V_y (Y_assign rfl) rfl rfl rfl ?_
  refine V_to (fun _ _ => rfl) ?_
  refine C_seq ?_
  refine C_seq ?_
  refine C_region ?_
  obtain ⟨v12, h13, h14⟩ := El.list h6
  refine V_y (Y_load h13 Try.isAgg34 rfl) rfl rfl rfl ?_
  refine V_y (Y_lenSl h14 rfl Try.underlying34 rfl) rfl rfl rfl ?_
  refine V_y (Y_gtr rfl rfl) rfl rfl rfl ?_
  refine V_to (fun _ _ => rfl) ?_
  refine C_cond rfl (fun hc15 => ?_) (fun hc15 => ?_)
  · rw [if_pos hc15] at hm
    refine C_seq ?_
    refine C_region ?_
    refine V_y (Y_assign rfl) rfl rfl rfl ?_
    refine V_y (Y_assign rfl) rfl rfl rfl ?_
    refine V_to (fun _ _ => rfl) ?_
    obtain rfl := Option.some.inj hm
    replace hH : Hp w.heap.size A w4 (obS (α := cal_Span) 39 (.slice none 0 0) ([] : (List cal_Span)) :: []) := Hp.addNil (α := cal_Span) (e := 39) hH
    refine C_ret ?_
    try simp only [↓inBlock_ret, ↓then_ret]
    exact retQ rfl (Res.two Try.results9 rfl rfl) ⟨.slice none 0 0, rfl, (Hp.ownd hH (i := 0) rfl), hK.kp⟩
  · rw [if_neg (nt hc15)] at hm
    refine C_skip_to (fun _ _ => rfl) ?_
    refine C_seq ?_
    refine C_seq ?_
    refine C_region ?_
    obtain ⟨v16, h17, h18⟩ := El.list h6
    refine V_y (Y_load h17 Try.isAgg34 rfl) rfl rfl rfl ?_
    refine V_y (Y_lenSl h18 rfl Try.underlying34 rfl) rfl rfl rfl ?_
    refine V_y (Y_move rfl) rfl rfl rfl ?_
    refine V_to (fun _ _ => rfl) ?_
    have hn39 := Sl.le h18
    obtain ⟨o19, ho19, hm⟩ := Option.bind_eq_some_iff.1 hm
    refine C_cutG (ι := (Unit × (Nat → Prop))) (fun ⟨s20, A26⟩ => [(1, .pointer (some ⟨b3, 0, none⟩))]) (fun ⟨s20, A26⟩ => fun w' => o19 = .fin s20 ∧ Hp w.heap.size A26 w' ([]) ∧ Tr Dw w.heap.size A w4 A26 w') ?_ ?_
    · refine C_block ?_
      refine C_range ho19 (fun k22 _ a w' => ∃ i : (Nat → Prop), Has ⟨26, [], none⟩ a ([(1, .pointer (some ⟨b3, 0, none⟩)), (10, v16), (11, .int .i64 (l.length : Int)), (12, .int .i64 (k22 : Int))]) ∧ Hp w.heap.size i w' ([]) ∧ Tr Dw w.heap.size A w4 i w') (fun a ha => ⟨A, ha.sub ⟨rfl, rfl, rfl, rfl, trivial⟩, ⟨hH, Tr.refl (Dw := Dw) hA⟩⟩) ?_
      rintro K k22 _ a w29 ⟨A30, ha62, hH31, hr21⟩ hle35 K38 h37
      refine C_of ?_ ha62
      replace h6 := El.tr (Dw := Dw) h6 hr21
      replace h18 := Sl.tr (Dw := Dw) h18 hr21
      replace hK := Tr.trans (Dw := Dw) hK hr21
      replace hB := Nat.le_trans hB hr21.ex.size
      replace hA := hr21.new
      replace hH : Hp w.heap.size A30 w29 ([]) := hH31
      refine C_seq (C_region (V_y (Y_lss rfl rfl) rfl rfl rfl (V_to (fun _ _ => rfl) ?_)))
      refine C_seq ?_
      refine C_cond rfl (fun hc40 => ?_) (fun hc40 => ?_)
      · have hlt36 := lt_of_dec hc40
        obtain ⟨x32, h33, h34⟩ := K38 hlt36
        refine C_skip_to (fun _ _ => rfl) ?_
        refine C_seq ?_
        refine C_block ?_
        refine C_seq ?_
        refine C_region ?_
        obtain ⟨x41, hx41, h33⟩ := Option.bind_eq_some_iff.1 h33
        refine V_indexAddr h18 hx41 Try.underlying34 Try.sizeOf39 rfl rfl rfl ?_
        intro b42 o43 h44
        obtain ⟨h45, _⟩ := El_cal_Span h44
        refine V_y (Y_loadA h45 Try.isAgg39 Try.sizeOf39 rfl) rfl rfl rfl ?_
        refine V_alloc Try.zeroValue39 rfl ?_
        intro b46 w47 h48
        refine V_storeNew h48 Try.sizeOf39 rfl rfl rfl rfl (by exact (List.forall_mem_cons.2 ⟨rfl, (List.forall_mem_cons.2 ⟨rfl, (fun _ h => nomatch h)⟩)⟩)) ?_
        intro w49 h50
        have hk52 := h50.kp (Dw := Dw)
        have h51 : El (α := cal_Span) A30 w49 b46 0 x41 := h50.el hA ⟨[.int .i64 x41.from_], _, rfl, rfl, rfl⟩
        have ht53 := Kp.tr (Dw := Dw) hk52 hA hB
        replace hH := Hp.kp (Dw := Dw) hH hk52
        replace h6 := El.tr (Dw := Dw) h6 ht53
        replace h18 := Sl.tr (Dw := Dw) h18 ht53
        replace h44 := El.tr (Dw := Dw) h44 ht53
        replace hK := Tr.trans (Dw := Dw) hK ht53
        replace hr21 := Tr.trans (Dw := Dw) hr21 ht53
        replace hB := Nat.le_trans hB ht53.ex.size
        replace hA := ht53.new
        refine V_to (fun _ _ => rfl) ?_
        refine C_seq ?_
        refine C_region ?_
        obtain ⟨h54, _⟩ := El_cal_Span h51
        refine V_y (Y_loadA h54 Try.isAgg39 Try.sizeOf39 rfl) rfl rfl rfl ?_
        obtain ⟨x55, hx55, h33⟩ := Option.bind_eq_some_iff.1 h33
        refine V_call Try.call31 rfl rfl rfl rfl (portref2_spanFault_c (Dw := Dw) w49 hA x41 hx55) ?_
        rintro _ w56 ⟨rfl, hk57⟩
        have ht58 := Kp.tr (Dw := Dw) hk57 hA hB
        replace hH := Hp.kp (Dw := Dw) hH hk57
        replace h6 := El.tr (Dw := Dw) h6 ht58
        replace h18 := Sl.tr (Dw := Dw) h18 ht58
        replace h51 := El.tr (Dw := Dw) h51 ht58
        replace hK := Tr.trans (Dw := Dw) hK ht58
        replace hr21 := Tr.trans (Dw := Dw) hr21 ht58
        replace hB := Nat.le_trans hB ht58.ex.size
        replace hA := ht58.new
        refine V_y (Y_assign rfl) rfl rfl rfl ?_
        refine V_to (fun _ _ => rfl) ?_
        refine C_seq ?_
        refine C_region ?_
        refine V_y (Y_move rfl) rfl rfl rfl ?_
        refine V_y (Y_neq rfl rfl) rfl rfl rfl ?_
        refine V_to (fun _ _ => rfl) ?_
        refine C_cond rfl (fun hc59 => ?_) (fun hc59 => ?_)
        · rw [if_pos hc59] at h33
          refine C_seq ?_
          refine C_region ?_
          refine V_y (Y_move rfl) rfl rfl rfl ?_
          refine V_y (Y_assign rfl) rfl rfl rfl ?_
          refine V_y (Y_assign rfl) rfl rfl rfl ?_
          refine V_to (fun _ _ => rfl) ?_
          obtain rfl := Option.some.inj h33
          obtain rfl := (h34 : Lp.rt _ = _)
          rw [Lp.andThen_rt] at hm
          obtain rfl := Option.some.inj hm
          replace hH : Hp w.heap.size A30 w56 (obS (α := cal_Span) 39 (.slice none 0 0) ([] : (List cal_Span)) :: []) := Hp.addNil (α := cal_Span) (e := 39) hH
          refine C_ret ?_
          try simp only [↓inBlock_ret, ↓then_ret]
          exact retQ rfl (Res.two Try.results9 rfl rfl) ⟨.slice none 0 0, rfl, (Hp.ownd hH (i := 0) rfl), hK.kp⟩
        · rw [if_neg (nt hc59)] at h33
          refine C_skip_to (fun _ _ => rfl) ?_
          refine C_region ?_
          refine V_y (Y_addI rfl rfl) rfl rfl rfl ?_
          refine V_y (Y_move rfl) rfl rfl rfl ?_
          obtain rfl := Option.some.inj h33
          refine V_end (fun a ha60 => ?_)
          exact ⟨(), hlt36, h34, ⟨A30, ha60.sub ⟨rfl, rfl, rfl, (congrArg (fun z => some (Value.int .i64 z)) (w64_succ hlt36 hn39)), trivial⟩, ⟨hH, hr21⟩⟩⟩
      · refine C_exit (fun a ha61 => ?_)
        exact ⟨((), A30), ha61.sub ⟨rfl, trivial⟩, ⟨(h37 (eq_of_dec hle35 hc40)).symm, hH, hr21⟩⟩
    rintro ⟨s20, A26⟩ w23 ⟨rfl, hH27, hk24⟩ a ha25
    rw [Lp.andThen_fin] at hm
    replace h6 := El.tr (Dw := Dw) h6 hk24
    replace hK := Tr.trans (Dw := Dw) hK hk24
    replace hB := Nat.le_trans hB hk24.ex.size
    replace hA := hk24.new
    replace hH : Hp w.heap.size A26 w23 ([]) := hH27
    refine C_at (n := ⟨26, [], none⟩) (fun _ _ => rfl) ?_ ha25
    refine C_seq ?_
    refine C_region ?_
    refine V_y (Y_makeFunc rfl rfl) rfl rfl rfl ?_
    obtain ⟨v63, h64, h65⟩ := El.list h6
    refine V_y (Y_load h64 Try.isAgg34 rfl) rfl rfl rfl ?_
    refine V_buildSlice (Dw := Dw) (cells := #[v63]) (l := ([l] : List (List cal_Span))) (len := 1) Try.underlying62 Try.sizeOf34 Try.zeroValue34 rfl (by obtain ⟨a70, c71, e72, _⟩ := Sl.form h65; subst e72; kernel_rfl) (show (1 * 1 : Nat) ≠ 0 by decide) (show (1 * 1 : Nat) ≤ 2 ^ 24 by decide) hA ⟨[v63], _, rfl, ⟨_, rfl, h65⟩, rfl⟩ rfl rfl ?_
    intro v66 w67 hk69 h68
    have ht73 := Kp.tr (Dw := Dw) hk69 hA hB
    replace hH := Hp.kp (Dw := Dw) hH hk69
    replace h6 := El.tr (Dw := Dw) h6 ht73
    replace h65 := Sl.tr (Dw := Dw) h65 ht73
    replace hK := Tr.trans (Dw := Dw) hK ht73
    replace hB := Nat.le_trans hB ht73.ex.size
    replace hA := ht73.new
    replace hH : Hp w.heap.size A26 w67 (obT :: []) := Hp.addT hH
    obtain ⟨x75, hx75, hm⟩ := Option.bind_eq_some_iff.1 hm
    refine V_call Try.call32 rfl rfl rfl rfl (portref2_merged_c (Dw := Dw) w67 hB hA (fun y78 => portref2_NormalOf_1 y78 l) (obT) (.func (.func 33) #[] #[.pointer (some ⟨b3, 0, none⟩)]) rfl (fun w2 A2 L2 x2 r2 h1 h2 h3 h4 h5 => CallV.func Try.call33 rfl ((portref2_NormalOf_1_c (Dw := Dw) w2 h2 x2 l b3 (El.tr (Dw := Dw) h6 h3) h5).mono fun _ w3 h => ⟨h.1, A2, Kp.tr (Dw := Dw) (h.2) h2 h1, Hp.kp (Dw := Dw) h4 (h.2)⟩)) ([l] : List (List cal_Span)) v66 h68 hH hx75) ?_
    rintro v76 w79 ⟨_, A80, rfl, hH81, ht82⟩
    replace h6 := El.tr (Dw := Dw) h6 ht82
    replace h65 := Sl.tr (Dw := Dw) h65 ht82
    replace h68 := Sl.tr (Dw := Dw) h68 ht82
    replace hK := Tr.trans (Dw := Dw) hK ht82
    replace hB := Nat.le_trans hB ht82.ex.size
    replace hA := ht82.new
    replace hH : Hp w.heap.size A80 w79 (obS (α := cal_Span) 39 v76 x75 :: obT :: []) := hH81
    refine V_y (Y_assign rfl) rfl rfl rfl ?_
    refine V_y (Y_assign rfl) rfl rfl rfl ?_
    refine V_to (fun _ _ => rfl) ?_
    obtain rfl := Option.some.inj hm
    refine C_ret ?_
    try simp only [↓inBlock_ret, ↓then_ret]
    exact retQ rfl (Res.two Try.results9 rfl rfl) ⟨v76, rfl, (Hp.ownd hH (i := 0) rfl), hK.kp⟩

end Go.Proofs.Ytcfhifbmjjhhdaa.W
