/-
  Written by program (gen.py) from the IR of the dump: each function computes its model.
-/
import Derived.Test.YtklcifchnpnpnaaProg
import Derived.Test.YtklcifchnpnpnaaGe
import Derived.Test.YtklcifchnpnpnaaStaffSimulatesM
import Derived.KernelRfl
import Derived.Test.YtklcifchnpnpnaaGz
import Derived.Shelf.Sort.Plain
import Derived.Shelf.Slices.In.SortNone
namespace Go.Proofs.Ytklcifchnpnpnaa.W
open Go Go.RowKit Go.Pu Go.Gw Go.Proofs Go.Proofs.Ytklcifchnpnpnaa.M
set_option linter.unusedVariables false
set_option linter.unusedSimpArgs false

theorem Try_info3 : Try.prog.info? 3 = some Try.t3 := by kernel_rfl
def Try_so_ren : Go.Shelf.Ren := ⟨fun | 125 => 30 | 128 => 47 | 129 => 48 | 189 => 17 | 215 => 49 | 216 => 44 | 257 => 29 | 294 => 38 | 295 => 39 | 296 => 40 | 297 => 41 | 298 => 42 | 299 => 43 | 300 => 45 | 301 => 46 | 328 => 51 | 329 => 52 | 330 => 53 | 331 => 54 | 332 => 55 | 343 => 58 | n => n, fun | 0 => 0 | 1 => 1 | 2 => 2 | 3 => 3 | 4 => 4 | 5 => 5 | 6 => 6 | 7 => 7 | 8 => 8 | 9 => 9 | 10 => 10 | 11 => 11 | 12 => 12 | 13 => 13 | 14 => 14 | 15 => 15 | 16 => 16 | 17 => 17 | 18 => 18 | 19 => 19 | 20 => 20 | 21 => 21 | 28 => 23 | 29 => 81 | 30 => 43 | 34 => 27 | 35 => 46 | 36 => 44 | 43 => 64 | 46 => 61 | 47 => 60 | 51 => 78 | 52 => 77 | 53 => 80 | 54 => 79 | 80 => 93 | 81 => 99 | 111 => 45 | 112 => 73 | 114 => 56 | 127 => 103 | 131 => 75 | 134 => 59 | 164 => 108 | 181 => 68 | 182 => 69 | 183 => 70 | 184 => 71 | 185 => 72 | 186 => 74 | 187 => 76 | 218 => 82 | 219 => 83 | 220 => 84 | 221 => 85 | 222 => 86 | 223 => 87 | 228 => 89 | 229 => 90 | 230 => 91 | 238 => 94 | 239 => 95 | 240 => 96 | 241 => 97 | 242 => 98 | 243 => 100 | 244 => 101 | 245 => 102 | 246 => 104 | 247 => 105 | 248 => 106 | 249 => 107 | n => n, fun n => n⟩
theorem Try_so : Go.Proofs.Lays.n189 Try.prog Try_so_ren := {
  mixed := by kernel_rfl,
  f125 := Try.func30.trans (congrArg some (by kernel_rfl)),
  f128 := Try.func47.trans (congrArg some (by kernel_rfl)),
  f129 := Try.func48.trans (congrArg some (by kernel_rfl)),
  f189 := Try.func17.trans (congrArg some (by kernel_rfl)),
  f215 := Try.func49.trans (congrArg some (by kernel_rfl)),
  f216 := Try.func44.trans (congrArg some (by kernel_rfl)),
  f257 := Try.func29.trans (congrArg some (by kernel_rfl)),
  f294 := Try.func38.trans (congrArg some (by kernel_rfl)),
  f295 := Try.func39.trans (congrArg some (by kernel_rfl)),
  f296 := Try.func40.trans (congrArg some (by kernel_rfl)),
  f297 := Try.func41.trans (congrArg some (by kernel_rfl)),
  f298 := Try.func42.trans (congrArg some (by kernel_rfl)),
  f299 := Try.func43.trans (congrArg some (by kernel_rfl)),
  f300 := Try.func45.trans (congrArg some (by kernel_rfl)),
  f301 := Try.func46.trans (congrArg some (by kernel_rfl)),
  f328 := Try.func51.trans (congrArg some (by kernel_rfl)),
  f329 := Try.func52.trans (congrArg some (by kernel_rfl)),
  f330 := Try.func53.trans (congrArg some (by kernel_rfl)),
  f331 := Try.func54.trans (congrArg some (by kernel_rfl)),
  f332 := Try.func55.trans (congrArg some (by kernel_rfl)),
  f343 := Try.func58.trans (congrArg some (by kernel_rfl)),
  t0 := Try.underlying0,
  a0 := Try.isAgg0,
  z0 := Try.sizeOf0,
  v0 := Try.zeroValue0,
  t3 := Try.underlying3,
  a3 := Try.isAgg3,
  z3 := Try.sizeOf3,
  v3 := Try.zeroValue3,
  t4 := Try.underlying4,
  a4 := Try.isAgg4,
  z4 := Try.sizeOf4,
  v4 := Try.zeroValue4,
  t5 := Try.underlying5,
  a5 := Try.isAgg5,
  z5 := Try.sizeOf5,
  v5 := Try.zeroValue5,
  t9 := Try.underlying9,
  a9 := Try.isAgg9,
  z9 := Try.sizeOf9,
  v9 := Try.zeroValue9,
  t28 := Try.underlying23,
  a28 := Try.isAgg23,
  z28 := Try.sizeOf23,
  v28 := Try.zeroValue23,
  t46 := Try.underlying61,
  a46 := Try.isAgg61,
  z46 := Try.sizeOf61,
  v46 := Try.zeroValue61,
  t51 := Try.underlying78,
  a51 := Try.isAgg78,
  z51 := Try.sizeOf78,
  v51 := Try.zeroValue78,
  t53 := Try.underlying80,
  a53 := Try.isAgg80,
  z53 := Try.sizeOf80,
  v53 := Try.zeroValue80,
  t131 := Try.underlying75,
  a131 := Try.isAgg75,
  z131 := Try.sizeOf75,
  v131 := Try.zeroValue75,
  t182 := Try.underlying69,
  a182 := Try.isAgg69,
  z182 := Try.sizeOf69,
  v182 := Try.zeroValue69,
  t183 := Try.underlying70,
  a183 := Try.isAgg70,
  z183 := Try.sizeOf70,
  v183 := Try.zeroValue70,
  t218 := Try.underlying82,
  a218 := Try.isAgg82,
  z218 := Try.sizeOf82,
  v218 := Try.zeroValue82,
  t222 := Try.underlying86,
  a222 := Try.isAgg86,
  z222 := Try.sizeOf86,
  v222 := Try.zeroValue86,
  t228 := Try.underlying89,
  a228 := Try.isAgg89,
  z228 := Try.sizeOf89,
  v228 := Try.zeroValue89,
  t229 := Try.underlying90,
  a229 := Try.isAgg90,
  z229 := Try.sizeOf90,
  v229 := Try.zeroValue90 }
theorem Try_sortInts {B : Nat} {A : Nat → Prop} {w : World} {L : List Ob} {i : Nat} {e : TypeId} {v : Value} {l r : List Int} (hH : Hp B A w L) (hi : L[i]? = some (obS (α := Int) e v l)) (hB : B ≤ w.heap.size) (hA : ∀ b, w.heap.size ≤ b → A b) (hr : sortIntsL l = some r) : Ret Try.prog 17 #[v] w fun u w' => u = .tuple #[] ∧ Hp B A w' (L.set i (obS e v r)) ∧ Tr B A w A w' :=
  Hp.sortInts (fun w => Go.Proofs.Any.slices_Sort_int_none Try_so none 0 w) (fun blk off cap zs w h1 h2 h3 => Go.Proofs.Any.slices_Sort_int Try_so blk off cap zs w h1 h2 h3) hH hi hB hA hr
theorem Try_mixed : Try.prog.follows .mixedOrders = true := by kernel_rfl

instance : GoT staff_Call := GoT.of (β := Int × Int) fun x => (x.at_, x.length)

instance : Flat staff_Call := ⟨fun {A w A1 w1 cs x} h => Flat.flat (α := Int × Int) (x := (x.at_, x.length)) (A := A) (w := w) h⟩

theorem El_staff_Call_ {A : Nat → Prop} {w : World} {b off : Nat} {x : staff_Call} (h : El A w b off x) : El (α := Int × Int) A w b off (x.at_, x.length) := h

theorem El_staff_Call_0 {A : Nat → Prop} {w : World} {b off : Nat} {x : staff_Call} (h : El A w b off x) : El A w b (off + 0) x.at_ := El.fst (El_staff_Call_ h)

theorem El_staff_Call_1 {A : Nat → Prop} {w : World} {b off : Nat} {x : staff_Call} (h : El A w b off x) : El A w b (off + 1) x.length := El.snd (El_staff_Call_ h)

theorem El_staff_Call {A : Nat → Prop} {w : World} {b off : Nat} {x : staff_Call} (h : El A w b off x) : At w b off [.int .i64 x.at_, .int .i64 x.length] ∧ True := by
  obtain ⟨h1, h2, cs, h3, h4⟩ := h
  obtain ⟨_, _, rfl, rfl, rfl⟩ := h3
  exact ⟨h4, trivial⟩

set_option maxRecDepth 4000 in
set_option maxHeartbeats 4000000 in
theorem staff_within_c (w : World) (n : Int) (low : Int) (high : Int) : Ret Try.prog 13 #[.int .i64 n, .int .i64 low, .int .i64 high] w fun v w' => v = .bool (staff_within n low high) ∧ w = w' := by
  generalize hm : staff_within n low high = r
  unfold staff_within at hm
  refine enter Try.func13 rfl Try.ntmps13 rfl ?_
  refine C_seq ?_
  refine C_region ?_
  refine V_y (Y_assign rfl) rfl rfl rfl ?_
  refine V_to (fun _ _ => rfl) ?_
  refine C_seq ?_
  refine C_region ?_
  refine V_y (Y_move rfl) rfl rfl rfl ?_
  refine V_y (Y_move rfl) rfl rfl rfl ?_
  refine V_y (Y_geq rfl rfl) rfl rfl rfl ?_
  refine V_y (Y_move rfl) rfl rfl rfl ?_
  refine V_cut 4 (fun _ : Unit => [(14, .bool ((decide (low ≤ n)) && (decide (n ≤ high))))]) (fun _ w' => w = w') ?_ ?_
  · simp only [List.take, List.drop]
    rcases Bool.eq_false_or_eq_true (decide (low ≤ n)) with hc1 | hc1
    · refine V_ge rfl rfl rfl hc1 ?_
      refine V_y (Y_move rfl) rfl rfl rfl ?_
      refine V_ge rfl rfl rfl hc1 ?_
      refine V_y (Y_move rfl) rfl rfl rfl ?_
      refine V_ge rfl rfl rfl hc1 ?_
      refine V_y (Y_leq rfl rfl) rfl rfl rfl ?_
      refine V_y (Y_pick_te rfl hc1 rfl) rfl rfl rfl ?_
      exact V_end fun a ha => ⟨(), ha.sub ⟨(by rw [hc1]; rfl), trivial⟩, rfl⟩
    · refine V_gn rfl rfl rfl hc1 rfl rfl rfl ?_
      refine V_gn rfl rfl rfl hc1 rfl rfl rfl ?_
      refine V_gn rfl rfl rfl hc1 rfl rfl rfl ?_
      refine V_y (Y_pick_fe rfl hc1 rfl) rfl rfl rfl ?_
      exact V_end fun a ha => ⟨(), ha.sub ⟨(by rw [hc1]; rfl), trivial⟩, rfl⟩
  simp only [List.take, List.drop]
  rintro _ _ rfl
  refine V_y (Y_assign rfl) rfl rfl rfl ?_
  refine V_to (fun _ _ => rfl) ?_
  obtain rfl := hm
  refine C_ret ?_
  try simp only [↓inBlock_ret, ↓then_ret]
  exact retQ rfl (Res.one Try.results13 rfl) ⟨rfl, rfl⟩

set_option maxRecDepth 4000 in
set_option maxHeartbeats 4000000 in
theorem slices_Min_Lint_int_c (w : World) {A : Nat → Prop} (hA : ∀ b, w.heap.size ≤ b → A b) (x : (List Int)) (v_x : Value) (h_x : Sl A w v_x x) {r : Int} (hm : slices_Min_Lint_int x = some r) : Ret Try.prog 15 #[v_x] w fun v w' => v = .int .i64 r ∧ Kp w w' := by
  unfold slices_Min_Lint_int at hm
  refine enter Try.func15 rfl Try.ntmps15 rfl ?_
  have hA0 := hA
  have hB := Nat.le_refl w.heap.size
  have hK : Tr w.heap.size A w A w := Tr.refl hA
  have hH : Hp w.heap.size A w [] := Hp.nil
  refine C_seq ?_
  refine C_region ?_
  refine V_y (Y_assign rfl) rfl rfl rfl ?_
  refine V_to (fun _ _ => rfl) ?_
  refine C_seq ?_
  refine C_seq ?_
  refine C_region ?_
  refine V_y (Y_move rfl) rfl rfl rfl ?_
  refine V_y (Y_lenSl h_x rfl Try.underlying23 rfl) rfl rfl rfl ?_
  refine V_y (Y_lss rfl rfl) rfl rfl rfl ?_
  refine V_to (fun _ _ => rfl) ?_
  refine C_cond rfl (fun hc3 => ?_) (fun hc3 => ?_)
  · rw [if_pos hc3] at hm
    cases hm
  · rw [if_neg (nt hc3)] at hm
    refine C_skip_to (fun _ _ => rfl) ?_
    refine C_seq ?_
    refine C_region ?_
    refine V_y (Y_move rfl) rfl rfl rfl ?_
    obtain ⟨x4, hx4, hm⟩ := Option.bind_eq_some_iff.1 hm
    refine V_indexAddr h_x hx4 Try.underlying23 Try.sizeOf3 rfl rfl rfl ?_
    intro b5 o6 h7
    refine V_y (Y_load (El.int h7) Try.isAgg3 rfl) rfl rfl rfl ?_
    refine V_y (Y_assign rfl) rfl rfl rfl ?_
    refine V_to (fun _ _ => rfl) ?_
    refine C_seq ?_
    refine C_seq ?_
    refine C_region ?_
    refine V_y (Y_assign rfl) rfl rfl rfl ?_
    refine V_to (fun _ _ => rfl) ?_
    obtain ⟨o8, ho8, hm⟩ := Option.bind_eq_some_iff.1 hm
    refine C_cutG (ι := (Int × Int)) (fun (s9 : (Int × Int)) => [(3, .int .i64 s9.1)]) (fun (s9 : (Int × Int)) => fun w' => o8 = .fin s9 ∧ w = w') ?_ ?_
    · refine C_block ?_
      refine C_while ho8 (fun s15 a w' => ∃ i : Unit, Has ⟨25, [], none⟩ a ([(0, v_x), (3, .int .i64 s15.1), (4, .int .i64 s15.2)]) ∧ w = w') (fun a ha => ⟨(), ha.sub ⟨rfl, rfl, rfl, trivial⟩, rfl⟩) ?_
      rintro K s15 a _ ⟨_, ha32, rfl⟩ K24
      refine C_of ?_ ha32
      obtain ⟨x18, h19, h20⟩ := K24
      refine C_seq ?_
      refine C_seq ?_
      refine C_region ?_
      refine V_y (Y_move rfl) rfl rfl rfl ?_
      refine V_y (Y_move rfl) rfl rfl rfl ?_
      refine V_y (Y_lenSl h_x rfl Try.underlying23 rfl) rfl rfl rfl ?_
      refine V_y (Y_lss rfl rfl) rfl rfl rfl ?_
      refine V_to (fun _ _ => rfl) ?_
      refine C_cond rfl (fun hc25 => ?_) (fun hc25 => ?_)
      · rw [if_pos hc25] at h19
        refine C_skip_to (fun _ _ => rfl) ?_
        refine C_seq ?_
        refine C_block ?_
        refine C_region ?_
        refine V_y (Y_move rfl) rfl rfl rfl ?_
        refine V_y (Y_move rfl) rfl rfl rfl ?_
        refine V_y (Y_move rfl) rfl rfl rfl ?_
        obtain ⟨x26, hx26, h19⟩ := Option.bind_eq_some_iff.1 h19
        refine V_indexAddr h_x hx26 Try.underlying23 Try.sizeOf3 rfl rfl rfl ?_
        intro b27 o28 h29
        refine V_y (Y_load (El.int h29) Try.isAgg3 rfl) rfl rfl rfl ?_
        refine V_y (Y_min2 rfl rfl) rfl rfl rfl ?_
        refine V_y (Y_assign rfl) rfl rfl rfl ?_
        refine V_to (fun _ _ => rfl) ?_
        refine C_region ?_
        refine V_y (Y_move rfl) rfl rfl rfl ?_
        refine V_y (Y_addI rfl rfl) rfl rfl rfl ?_
        refine V_y (Y_assign rfl) rfl rfl rfl ?_
        obtain rfl := Option.some.inj h19
        refine V_end (fun a ha30 => ?_)
        exact ⟨((if x26 < s15.1 then x26 else s15.1), w64 (s15.2 + 1)), h20, ⟨(), ha30.sub ⟨rfl, rfl, rfl, trivial⟩, rfl⟩⟩
      · rw [if_neg (nt hc25)] at h19
        obtain rfl := Option.some.inj h19
        refine C_exit (fun a ha31 => ?_)
        exact ⟨(s15.1, s15.2), ha31.sub ⟨rfl, trivial⟩, ⟨h20.symm, rfl⟩⟩
    rintro s9 _ ⟨rfl, rfl⟩ a ha14
    rw [Lp.andThen_fin] at hm
    refine C_at (n := ⟨25, [], none⟩) (fun _ _ => rfl) ?_ ha14
    refine C_seq ?_
    refine C_region ?_
    refine V_y (Y_move rfl) rfl rfl rfl ?_
    refine V_y (Y_assign rfl) rfl rfl rfl ?_
    refine V_to (fun _ _ => rfl) ?_
    obtain rfl := Option.some.inj hm
    refine C_ret ?_
    try simp only [↓inBlock_ret, ↓then_ret]
    exact retQ rfl (Res.one Try.results15 rfl) ⟨rfl, hK.kp⟩

set_option maxRecDepth 4000 in
set_option maxHeartbeats 4000000 in
theorem slices_Index_Lint_int_c (w : World) {A : Nat → Prop} (s : (List Int)) (v_s : Value) (h_s : Sl A w v_s s) (v : Int) {r : Int} (hm : slices_Index_Lint_int s v = some r) : Ret Try.prog 14 #[v_s, .int .i64 v] w fun v w' => v = .int .i64 r ∧ w = w' := by
  unfold slices_Index_Lint_int at hm
  refine enter Try.func14 rfl Try.ntmps14 rfl ?_
  refine C_seq ?_
  refine C_region ?_
  refine V_y (Y_assign rfl) rfl rfl rfl ?_
  refine V_to (fun _ _ => rfl) ?_
  refine C_seq ?_
  refine C_seq ?_
  refine C_region ?_
  refine V_y (Y_move rfl) rfl rfl rfl ?_
  refine V_y (Y_lenSl h_s rfl Try.underlying23 rfl) rfl rfl rfl ?_
  refine V_y (Y_move rfl) rfl rfl rfl ?_
  refine V_to (fun _ _ => rfl) ?_
  have hn19 := Sl.le h_s
  obtain ⟨o3, ho3, hm⟩ := Option.bind_eq_some_iff.1 hm
  refine C_cutG (ι := Unit) (fun (s4 : Unit) => []) (fun (s4 : Unit) => fun w' => o3 = .fin s4 ∧ w = w') ?_ ?_
  · refine C_block ?_
    refine C_range ho3 (fun k6 _ a w' => ∃ i : Unit, Has ⟨19, [], none⟩ a ([(0, v_s), (1, .int .i64 v), (7, .int .i64 (s.length : Int)), (8, .int .i64 (k6 : Int))]) ∧ w = w') (fun a ha => ⟨(), ha.sub ⟨rfl, rfl, rfl, rfl, trivial⟩, rfl⟩) ?_
    rintro K k6 _ a _ ⟨_, ha28, rfl⟩ hle15 K18 h17
    refine C_of ?_ ha28
    refine C_seq (C_region (V_y (Y_lss rfl rfl) rfl rfl rfl (V_to (fun _ _ => rfl) ?_)))
    refine C_seq ?_
    refine C_cond rfl (fun hc20 => ?_) (fun hc20 => ?_)
    · have hlt16 := lt_of_dec hc20
      obtain ⟨x12, h13, h14⟩ := K18 hlt16
      refine C_skip_to (fun _ _ => rfl) ?_
      refine C_seq ?_
      refine C_block ?_
      refine C_seq ?_
      refine C_region ?_
      refine V_y (Y_move rfl) rfl rfl rfl ?_
      refine V_y (Y_assign rfl) rfl rfl rfl ?_
      refine V_to (fun _ _ => rfl) ?_
      refine C_seq ?_
      refine C_region ?_
      refine V_y (Y_move rfl) rfl rfl rfl ?_
      refine V_y (Y_move rfl) rfl rfl rfl ?_
      refine V_y (Y_move rfl) rfl rfl rfl ?_
      obtain ⟨x21, hx21, h13⟩ := Option.bind_eq_some_iff.1 h13
      refine V_indexAddr h_s hx21 Try.underlying23 Try.sizeOf3 rfl rfl rfl ?_
      intro b22 o23 h24
      refine V_y (Y_load (El.int h24) Try.isAgg3 rfl) rfl rfl rfl ?_
      refine V_y (Y_eql rfl rfl) rfl rfl rfl ?_
      refine V_to (fun _ _ => rfl) ?_
      refine C_cond rfl (fun hc25 => ?_) (fun hc25 => ?_)
      · rw [if_pos hc25] at h13
        refine C_seq ?_
        refine C_region ?_
        refine V_y (Y_move rfl) rfl rfl rfl ?_
        refine V_y (Y_assign rfl) rfl rfl rfl ?_
        refine V_to (fun _ _ => rfl) ?_
        obtain rfl := Option.some.inj h13
        obtain rfl := (h14 : Lp.rt _ = _)
        rw [Lp.andThen_rt] at hm
        obtain rfl := Option.some.inj hm
        refine C_ret ?_
        try simp only [↓inBlock_ret, ↓then_ret]
        exact retQ rfl (Res.one Try.results14 rfl) ⟨rfl, rfl⟩
      · rw [if_neg (nt hc25)] at h13
        refine C_skip_to (fun _ _ => rfl) ?_
        refine C_region ?_
        refine V_y (Y_addI rfl rfl) rfl rfl rfl ?_
        refine V_y (Y_move rfl) rfl rfl rfl ?_
        obtain rfl := Option.some.inj h13
        refine V_end (fun a ha26 => ?_)
        exact ⟨(), hlt16, h14, ⟨(), ha26.sub ⟨rfl, rfl, rfl, (congrArg (fun z => some (Value.int .i64 z)) (w64_succ hlt16 hn19)), trivial⟩, rfl⟩⟩
    · refine C_exit (fun a ha27 => ?_)
      exact ⟨(), ha27.sub trivial, ⟨(h17 (eq_of_dec hle15 hc20)).symm, rfl⟩⟩
  rintro s4 _ ⟨rfl, rfl⟩ a ha9
  rw [Lp.andThen_fin] at hm
  refine C_at (n := ⟨19, [], none⟩) (fun _ _ => rfl) ?_ ha9
  refine C_seq ?_
  refine C_region ?_
  refine V_y (Y_assign rfl) rfl rfl rfl ?_
  refine V_to (fun _ _ => rfl) ?_
  obtain rfl := Option.some.inj hm
  refine C_ret ?_
  try simp only [↓inBlock_ret, ↓then_ret]
  exact retQ rfl (Res.one Try.results14 rfl) ⟨rfl, rfl⟩

set_option maxRecDepth 4000 in
set_option maxHeartbeats 4000000 in
theorem staff_Simulate_c (w : World) {A : Nat → Prop} (hA : ∀ b, w.heap.size ≤ b → A b) (calls : (List staff_Call)) (v_calls : Value) (h_calls : Sl A w v_calls calls) (n : Int) {r : ((List Int) × Int)} (hm : staff_Simulate calls n = some r) : Ret Try.prog 5 #[v_calls, .int .i64 n] w fun v w' => ∃ s0, v = .tuple #[s0, .int .i64 r.2] ∧ Ownd 3 w w' s0 r.1 ∧ Kp w w' := by
  unfold staff_Simulate at hm
  refine enter Try.func5 rfl Try.ntmps5 rfl ?_
  have hA0 := hA
  have hB := Nat.le_refl w.heap.size
  have hK : Tr w.heap.size A w A w := Tr.refl hA
  have hH : Hp w.heap.size A w [] := Hp.nil
  refine C_seq ?_
  refine C_region ?_
  refine V_y (Y_assign rfl) rfl rfl rfl ?_
  refine V_y (Y_assign rfl) rfl rfl rfl ?_
  refine V_to (fun _ _ => rfl) ?_
  refine C_seq ?_
  refine C_seq ?_
  refine C_region ?_
  refine V_y (Y_move rfl) rfl rfl rfl ?_
  refine V_y (Y_lenSl h_calls rfl Try.underlying22 rfl) rfl rfl rfl ?_
  refine V_y (Y_gtr rfl rfl) rfl rfl rfl ?_
  refine V_to (fun _ _ => rfl) ?_
  refine C_cond rfl (fun hc3 => ?_) (fun hc3 => ?_)
  · rw [if_pos hc3] at hm
    refine C_seq ?_
    refine C_region ?_
    refine V_y (Y_assign rfl) rfl rfl rfl ?_
    refine V_y (Y_assign rfl) rfl rfl rfl ?_
    refine V_to (fun _ _ => rfl) ?_
    obtain rfl := Option.some.inj hm
    replace hH : Hp w.heap.size A w (obS (α := Int) 3 (.slice none 0 0) ([] : (List Int)) :: []) := Hp.addNil (α := Int) (e := 3) hH
    refine C_ret ?_
    try simp only [↓inBlock_ret, ↓then_ret]
    exact retQ rfl (Res.two Try.results5 rfl rfl) ⟨.slice none 0 0, rfl, (Hp.ownd hH (i := 0) rfl), hK.kp⟩
  · rw [if_neg (nt hc3)] at hm
    refine C_skip_to (fun _ _ => rfl) ?_
    refine C_seq ?_
    refine C_region ?_
    refine V_y (Y_assign rfl) rfl rfl rfl ?_
    refine V_to (fun _ _ => rfl) ?_
    refine C_seq ?_
    refine C_seq ?_
    refine C_region ?_
    refine V_y (Y_move rfl) rfl rfl rfl ?_
    refine V_y (Y_lenSl h_calls rfl Try.underlying22 rfl) rfl rfl rfl ?_
    refine V_y (Y_move rfl) rfl rfl rfl ?_
    refine V_to (fun _ _ => rfl) ?_
    have hn25 := Sl.le h_calls
    obtain ⟨o4, ho4, hm⟩ := Option.bind_eq_some_iff.1 hm
    refine C_cutG (ι := (Int × (Nat → Prop))) (fun ⟨s5, A12⟩ => [(0, v_calls), (1, .int .i64 n)]) (fun ⟨s5, A12⟩ => fun w' => o4 = .fin s5 ∧ Hp w.heap.size A12 w' ([]) ∧ Tr w.heap.size A w A12 w') ?_ ?_
    · refine C_block ?_
      refine C_range ho4 (fun k7 s14 a w' => ∃ i : (Nat → Prop), Has ⟨79, [], none⟩ a ([(0, v_calls), (1, .int .i64 n), (6, .int .i64 s14), (18, v_calls), (19, .int .i64 (calls.length : Int)), (20, .int .i64 (k7 : Int))]) ∧ Hp w.heap.size i w' ([]) ∧ Tr w.heap.size A w i w') (fun a ha => ⟨A, ha.sub ⟨rfl, rfl, rfl, rfl, rfl, rfl, trivial⟩, ⟨hH, Tr.refl hA⟩⟩) ?_
      rintro K k7 s14 a w15 ⟨A16, ha50, hH17, hr6⟩ hle21 K24 h23
      refine C_of ?_ ha50
      replace h_calls := Sl.tr h_calls hr6
      replace hK := Tr.trans hK hr6
      replace hB := Nat.le_trans hB hr6.ex.size
      replace hA := hr6.new
      replace hH : Hp w.heap.size A16 w15 ([]) := hH17
      refine C_seq (C_region (V_y (Y_lss rfl rfl) rfl rfl rfl (V_to (fun _ _ => rfl) ?_)))
      refine C_seq ?_
      refine C_cond rfl (fun hc26 => ?_) (fun hc26 => ?_)
      · have hlt22 := lt_of_dec hc26
        obtain ⟨x18, h19, h20⟩ := K24 hlt22
        refine C_skip_to (fun _ _ => rfl) ?_
        refine C_seq ?_
        refine C_block ?_
        refine C_seq ?_
        refine C_region ?_
        obtain ⟨x27, hx27, h19⟩ := Option.bind_eq_some_iff.1 h19
        refine V_indexAddr h_calls hx27 Try.underlying22 Try.sizeOf41 rfl rfl rfl ?_
        intro b28 o29 h30
        obtain ⟨h31, _⟩ := El_staff_Call h30
        refine V_y (Y_loadA h31 Try.isAgg41 Try.sizeOf41 rfl) rfl rfl rfl ?_
        refine V_alloc Try.zeroValue41 rfl ?_
        intro b32 w33 h34
        refine V_storeNew h34 Try.sizeOf41 rfl rfl rfl rfl (by exact (List.forall_mem_cons.2 ⟨rfl, (List.forall_mem_cons.2 ⟨rfl, (fun _ h => nomatch h)⟩)⟩)) ?_
        intro w35 h36
        have hk38 := h36.kp
        have h37 : El (α := staff_Call) A16 w35 b32 0 x27 := h36.el hA ⟨[.int .i64 x27.at_], _, rfl, rfl, rfl⟩
        have ht39 := Kp.tr hk38 hA hB
        replace hH := Hp.kp hH hk38
        replace h_calls := Sl.tr h_calls ht39
        replace h30 := El.tr h30 ht39
        replace hK := Tr.trans hK ht39
        replace hr6 := Tr.trans hr6 ht39
        replace hB := Nat.le_trans hB ht39.ex.size
        replace hA := ht39.new
        refine V_to (fun _ _ => rfl) ?_
        refine C_seq ?_
        refine C_seq ?_
        refine C_region ?_
        have h40 := El_staff_Call_0 h37
        refine V_y (Y_fieldAddr Try.underlying41 rfl Try.sizeOf3 (by decide) rfl) rfl rfl rfl ?_
        refine V_y (Y_load (El.int h40) Try.isAgg3 rfl) rfl rfl rfl ?_
        refine V_call Try.call13 rfl rfl rfl rfl (staff_within_c w35 x27.at_ 0 3000000) ?_
        rintro _ _ ⟨rfl, rfl⟩
        refine V_y (Y_not rfl) rfl rfl rfl ?_
        refine V_y (Y_move rfl) rfl rfl rfl ?_
        refine V_cut 5 (fun _ : Unit => [(0, v_calls), (1, .int .i64 n), (6, .int .i64 s14), (8, .pointer (some ⟨b32, 0, none⟩)), (18, v_calls), (19, .int .i64 (calls.length : Int)), (20, .int .i64 (k7 : Int)), (33, .bool ((!(staff_within x27.at_ 0 3000000)) || (!(staff_within x27.length 1 1440))))]) (fun _ w' => w35 = w') ?_ ?_
        · simp only [List.take, List.drop]
          rcases Bool.eq_false_or_eq_true (!(staff_within x27.at_ 0 3000000)) with hc41 | hc41
          · refine V_gn rfl rfl rfl hc41 rfl rfl rfl ?_
            refine V_gn rfl rfl rfl hc41 rfl rfl rfl ?_
            refine V_gn rfl rfl rfl hc41 rfl rfl rfl ?_
            refine V_gn rfl rfl rfl hc41 rfl rfl rfl ?_
            refine V_y (Y_pick_te rfl hc41 rfl) rfl rfl rfl ?_
            exact V_end fun a ha => ⟨(), ha.sub ⟨rfl, rfl, rfl, rfl, rfl, rfl, rfl, (by rw [hc41]; rfl), trivial⟩, rfl⟩
          · refine V_ge rfl rfl rfl hc41 ?_
            have h43 := El_staff_Call_1 h37
            refine V_y (Y_fieldAddr Try.underlying41 rfl Try.sizeOf3 (by decide) rfl) rfl rfl rfl ?_
            refine V_ge rfl rfl rfl hc41 ?_
            refine V_y (Y_load (El.int h43) Try.isAgg3 rfl) rfl rfl rfl ?_
            refine V_ge rfl rfl rfl hc41 ?_
            refine V_call Try.call13 rfl rfl rfl rfl (staff_within_c w35 x27.length 1 1440) ?_
            rintro _ _ ⟨rfl, rfl⟩
            refine V_ge rfl rfl rfl hc41 ?_
            refine V_y (Y_not rfl) rfl rfl rfl ?_
            refine V_y (Y_pick_fe rfl hc41 rfl) rfl rfl rfl ?_
            exact V_end fun a ha => ⟨(), ha.sub ⟨rfl, rfl, rfl, rfl, rfl, rfl, rfl, (by rw [hc41]; rfl), trivial⟩, rfl⟩
        simp only [List.take, List.drop]
        rintro _ _ rfl
        refine V_to (fun _ _ => rfl) ?_
        refine C_cond rfl (fun hc44 => ?_) (fun hc44 => ?_)
        · rw [if_pos hc44] at h19
          refine C_seq ?_
          refine C_region ?_
          refine V_y (Y_assign rfl) rfl rfl rfl ?_
          refine V_y (Y_assign rfl) rfl rfl rfl ?_
          refine V_to (fun _ _ => rfl) ?_
          obtain rfl := Option.some.inj h19
          obtain rfl := (h20 : Lp.rt _ = _)
          rw [Lp.andThen_rt] at hm
          obtain rfl := Option.some.inj hm
          replace hH : Hp w.heap.size A16 w35 (obS (α := Int) 3 (.slice none 0 0) ([] : (List Int)) :: []) := Hp.addNil (α := Int) (e := 3) hH
          refine C_ret ?_
          try simp only [↓inBlock_ret, ↓then_ret]
          exact retQ rfl (Res.two Try.results5 rfl rfl) ⟨.slice none 0 0, rfl, (Hp.ownd hH (i := 0) rfl), hK.kp⟩
        · rw [if_neg (nt hc44)] at h19
          refine C_skip_to (fun _ _ => rfl) ?_
          refine C_seq ?_
          refine C_seq ?_
          refine C_region ?_
          have h45 := El_staff_Call_0 h37
          refine V_y (Y_fieldAddr Try.underlying41 rfl Try.sizeOf3 (by decide) rfl) rfl rfl rfl ?_
          refine V_y (Y_load (El.int h45) Try.isAgg3 rfl) rfl rfl rfl ?_
          refine V_y (Y_move rfl) rfl rfl rfl ?_
          refine V_y (Y_lss rfl rfl) rfl rfl rfl ?_
          refine V_to (fun _ _ => rfl) ?_
          refine C_cond rfl (fun hc46 => ?_) (fun hc46 => ?_)
          · rw [if_pos hc46] at h19
            refine C_seq ?_
            refine C_region ?_
            refine V_y (Y_assign rfl) rfl rfl rfl ?_
            refine V_y (Y_assign rfl) rfl rfl rfl ?_
            refine V_to (fun _ _ => rfl) ?_
            obtain rfl := Option.some.inj h19
            obtain rfl := (h20 : Lp.rt _ = _)
            rw [Lp.andThen_rt] at hm
            obtain rfl := Option.some.inj hm
            replace hH : Hp w.heap.size A16 w35 (obS (α := Int) 3 (.slice none 0 0) ([] : (List Int)) :: []) := Hp.addNil (α := Int) (e := 3) hH
            refine C_ret ?_
            try simp only [↓inBlock_ret, ↓then_ret]
            exact retQ rfl (Res.two Try.results5 rfl rfl) ⟨.slice none 0 0, rfl, (Hp.ownd hH (i := 0) rfl), hK.kp⟩
          · rw [if_neg (nt hc46)] at h19
            refine C_skip_to (fun _ _ => rfl) ?_
            refine C_region ?_
            have h47 := El_staff_Call_0 h37
            refine V_y (Y_fieldAddr Try.underlying41 rfl Try.sizeOf3 (by decide) rfl) rfl rfl rfl ?_
            refine V_y (Y_load (El.int h47) Try.isAgg3 rfl) rfl rfl rfl ?_
            refine V_y (Y_assign rfl) rfl rfl rfl ?_
            refine V_to (fun _ _ => rfl) ?_
            refine C_region ?_
            refine V_y (Y_addI rfl rfl) rfl rfl rfl ?_
            refine V_y (Y_move rfl) rfl rfl rfl ?_
            obtain rfl := Option.some.inj h19
            refine V_end (fun a ha48 => ?_)
            exact ⟨x27.at_, hlt22, h20, ⟨A16, ha48.sub ⟨rfl, rfl, rfl, rfl, rfl, (congrArg (fun z => some (Value.int .i64 z)) (w64_succ hlt22 hn25)), trivial⟩, ⟨hH, hr6⟩⟩⟩
      · refine C_exit (fun a ha49 => ?_)
        exact ⟨(s14, A16), ha49.sub ⟨rfl, rfl, trivial⟩, ⟨(h23 (eq_of_dec hle21 hc26)).symm, hH, hr6⟩⟩
    rintro ⟨s5, A12⟩ w9 ⟨rfl, hH13, hk10⟩ a ha11
    rw [Lp.andThen_fin] at hm
    replace h_calls := Sl.tr h_calls hk10
    replace hK := Tr.trans hK hk10
    replace hB := Nat.le_trans hB hk10.ex.size
    replace hA := hk10.new
    replace hH : Hp w.heap.size A12 w9 ([]) := hH13
    refine C_at (n := ⟨79, [], none⟩) (fun _ _ => rfl) ?_ ha11
    refine C_seq ?_
    refine C_seq ?_
    refine C_region ?_
    refine V_y (Y_move rfl) rfl rfl rfl ?_
    refine V_call Try.call13 rfl rfl rfl rfl (staff_within_c w9 n 1 60) ?_
    rintro _ _ ⟨rfl, rfl⟩
    refine V_y (Y_not rfl) rfl rfl rfl ?_
    refine V_to (fun _ _ => rfl) ?_
    refine C_cond rfl (fun hc51 => ?_) (fun hc51 => ?_)
    · rw [if_pos hc51] at hm
      refine C_seq ?_
      refine C_region ?_
      refine V_y (Y_assign rfl) rfl rfl rfl ?_
      refine V_y (Y_assign rfl) rfl rfl rfl ?_
      refine V_to (fun _ _ => rfl) ?_
      obtain rfl := Option.some.inj hm
      replace hH : Hp w.heap.size A12 w9 (obS (α := Int) 3 (.slice none 0 0) ([] : (List Int)) :: []) := Hp.addNil (α := Int) (e := 3) hH
      refine C_ret ?_
      try simp only [↓inBlock_ret, ↓then_ret]
      exact retQ rfl (Res.two Try.results5 rfl rfl) ⟨.slice none 0 0, rfl, (Hp.ownd hH (i := 0) rfl), hK.kp⟩
    · rw [if_neg (nt hc51)] at hm
      refine C_skip_to (fun _ _ => rfl) ?_
      refine C_seq ?_
      refine C_region ?_
      refine V_y (Y_move rfl) rfl rfl rfl ?_
      obtain ⟨x52, hx52, hm⟩ := Option.bind_eq_some_iff.1 hm
      refine V_makeH (e := 3) (ti := Try.t3) hH hx52 (fun _ _ => rfl) Try.underlying23 Try_info3 rfl rfl rfl (by decide) (by decide) hB hA rfl rfl rfl ?_
      intro v53 w54 A55 hH56 ht57
      replace h_calls := Sl.tr h_calls ht57
      replace hK := Tr.trans hK ht57
      replace hB := Nat.le_trans hB ht57.ex.size
      replace hA := ht57.new
      replace hH : Hp w.heap.size A55 w54 (obS (α := Int) 3 v53 x52 :: []) := hH56
      refine V_y (Y_assign rfl) rfl rfl rfl ?_
      refine V_to (fun _ _ => rfl) ?_
      refine C_seq ?_
      refine C_region ?_
      refine V_y (Y_assign rfl) rfl rfl rfl ?_
      refine V_to (fun _ _ => rfl) ?_
      refine C_seq ?_
      refine C_seq ?_
      refine C_region ?_
      refine V_y (Y_move rfl) rfl rfl rfl ?_
      refine V_y (Y_lenSl h_calls rfl Try.underlying22 rfl) rfl rfl rfl ?_
      refine V_y (Y_move rfl) rfl rfl rfl ?_
      refine V_to (fun _ _ => rfl) ?_
      replace hH : Hp w.heap.size A55 w54 (obS (α := Int) 3 (.slice none 0 0) ([] : (List Int)) :: obS (α := Int) 3 v53 x52 :: []) := Hp.addNil (α := Int) (e := 3) hH
      have hn86 := Sl.le h_calls
      obtain ⟨o58, ho58, hm⟩ := Option.bind_eq_some_iff.1 hm
      refine C_cutG (ι := (((List Int) × (List Int)) × Value × Value × (Nat → Prop))) (fun ⟨s59, v65, v67, A69⟩ => [(10, v67)]) (fun ⟨s59, v65, v67, A69⟩ => fun w' => o58 = .fin s59 ∧ Hp w.heap.size A69 w' (obS (α := Int) 3 v67 s59.2 :: obS (α := Int) 3 v65 s59.1 :: []) ∧ Tr w.heap.size A55 w54 A69 w') ?_ ?_
      · refine C_block ?_
        refine C_range ho58 (fun k61 s71 a w' => ∃ i : (Value × Value × (Nat → Prop)), Has ⟨79, [], none⟩ a ([(9, i.1), (10, i.2.1), (46, v_calls), (47, .int .i64 (calls.length : Int)), (48, .int .i64 (k61 : Int))]) ∧ Hp w.heap.size i.2.2 w' (obS (α := Int) 3 i.2.1 s71.2 :: obS (α := Int) 3 i.1 s71.1 :: []) ∧ Tr w.heap.size A55 w54 i.2.2 w') (fun a ha => ⟨(v53, .slice none 0 0, A55), ha.sub ⟨rfl, rfl, rfl, rfl, rfl, trivial⟩, ⟨hH, Tr.refl hA⟩⟩) ?_
        rintro K k61 s71 a w72 ⟨⟨v73, v75, A77⟩, ha138, hH78, hr60⟩ hle82 K85 h84
        refine C_of ?_ ha138
        replace h_calls := Sl.tr h_calls hr60
        replace hK := Tr.trans hK hr60
        replace hB := Nat.le_trans hB hr60.ex.size
        replace hA := hr60.new
        replace hH : Hp w.heap.size A77 w72 (obS (α := Int) 3 v75 s71.2 :: obS (α := Int) 3 v73 s71.1 :: []) := hH78
        refine C_seq (C_region (V_y (Y_lss rfl rfl) rfl rfl rfl (V_to (fun _ _ => rfl) ?_)))
        refine C_seq ?_
        refine C_cond rfl (fun hc87 => ?_) (fun hc87 => ?_)
        · have hlt83 := lt_of_dec hc87
          obtain ⟨x79, h80, h81⟩ := K85 hlt83
          refine C_skip_to (fun _ _ => rfl) ?_
          refine C_seq ?_
          refine C_block ?_
          refine C_seq ?_
          refine C_region ?_
          obtain ⟨x88, hx88, h80⟩ := Option.bind_eq_some_iff.1 h80
          refine V_indexAddr h_calls hx88 Try.underlying22 Try.sizeOf41 rfl rfl rfl ?_
          intro b89 o90 h91
          obtain ⟨h92, _⟩ := El_staff_Call h91
          refine V_y (Y_loadA h92 Try.isAgg41 Try.sizeOf41 rfl) rfl rfl rfl ?_
          refine V_alloc Try.zeroValue41 rfl ?_
          intro b93 w94 h95
          refine V_storeNew h95 Try.sizeOf41 rfl rfl rfl rfl (by exact (List.forall_mem_cons.2 ⟨rfl, (List.forall_mem_cons.2 ⟨rfl, (fun _ h => nomatch h)⟩)⟩)) ?_
          intro w96 h97
          have hk99 := h97.kp
          have h98 : El (α := staff_Call) A77 w96 b93 0 x88 := h97.el hA ⟨[.int .i64 x88.at_], _, rfl, rfl, rfl⟩
          have ht100 := Kp.tr hk99 hA hB
          replace hH := Hp.kp hH hk99
          replace h_calls := Sl.tr h_calls ht100
          replace h91 := El.tr h91 ht100
          replace hK := Tr.trans hK ht100
          replace hr60 := Tr.trans hr60 ht100
          replace hB := Nat.le_trans hB ht100.ex.size
          replace hA := ht100.new
          refine V_to (fun _ _ => rfl) ?_
          refine C_seq ?_
          refine C_region ?_
          refine V_y (Y_move rfl) rfl rfl rfl ?_
          refine V_y (Y_move rfl) rfl rfl rfl ?_
          obtain ⟨x101, hx101, h80⟩ := Option.bind_eq_some_iff.1 h80
          refine V_call Try.call15 rfl rfl rfl rfl (slices_Min_Lint_int_c w96 (A := fun _ => True) (fun _ _ => trivial) s71.1 v73 (Hp.any (α := Int) (e := 3) (v := v73) (l := s71.1) hH (i := 1) rfl) hx101) ?_
          rintro _ w102 ⟨rfl, hk103⟩
          have ht104 := Kp.tr hk103 hA hB
          replace hH := Hp.kp hH hk103
          replace h_calls := Sl.tr h_calls ht104
          replace h98 := El.tr h98 ht104
          replace hK := Tr.trans hK ht104
          replace hr60 := Tr.trans hr60 ht104
          replace hB := Nat.le_trans hB ht104.ex.size
          replace hA := ht104.new
          obtain ⟨x105, hx105, h80⟩ := Option.bind_eq_some_iff.1 h80
          refine V_call Try.call14 rfl rfl rfl rfl (slices_Index_Lint_int_c w102 s71.1 v73 (Hp.any (α := Int) (e := 3) (v := v73) (l := s71.1) hH (i := 1) rfl) x101 hx105) ?_
          rintro _ _ ⟨rfl, rfl⟩
          refine V_y (Y_assign rfl) rfl rfl rfl ?_
          refine V_to (fun _ _ => rfl) ?_
          refine C_seq ?_
          refine C_region_q Try_mixed (by kernel_rfl) ?_
          have h106 := El_staff_Call_0 h98
          refine VQ_y (fun w' hw' => Y_fieldAddr Try.underlying41 rfl Try.sizeOf3 (by decide) rfl) rfl rfl rfl ?_
          refine VQ_y (fun w' hw' => Y_load (El.int (El.kp h106 hw')) Try.isAgg3 rfl) rfl rfl rfl ?_
          refine VQ_y (fun w' hw' => Y_move rfl) rfl rfl rfl ?_
          refine VQ_y (fun w' hw' => Y_move rfl) rfl rfl rfl ?_
          obtain ⟨x107, hx107, h80⟩ := Option.bind_eq_some_iff.1 h80
          refine VQ_indexAddrH (α := Int) (e := 3) (v := v73) (l := s71.1) hH (i := 1) rfl hx107 Try.underlying23 Try.sizeOf3 rfl rfl rfl ?_
          intro b108 o109 h110 hl111
          refine VQ_y (fun w' hw' => Y_load (El.int (El.kp h110 hw')) Try.isAgg3 rfl) rfl rfl rfl ?_
          refine VQ_y (fun w' hw' => Y_max2 rfl rfl) rfl rfl rfl ?_
          refine VQ_y (fun w' hw' => Y_assign rfl) rfl rfl rfl ?_
          refine VQ_to (fun _ _ => rfl) (fun w112 hk113 => ?_)
          have ht114 := Kp.tr hk113 hA hB
          replace hH := Hp.kp hH hk113
          replace h_calls := Sl.tr h_calls ht114
          replace h98 := El.tr h98 ht114
          replace hK := Tr.trans hK ht114
          replace hr60 := Tr.trans hr60 ht114
          replace hB := Nat.le_trans hB ht114.ex.size
          replace hA := ht114.new
          refine C_seq ?_
          refine C_region ?_
          refine V_y (Y_move rfl) rfl rfl rfl ?_
          refine V_y (Y_move rfl) rfl rfl rfl ?_
          have h115 := El_staff_Call_0 h98
          refine V_y (Y_fieldAddr Try.underlying41 rfl Try.sizeOf3 (by decide) rfl) rfl rfl rfl ?_
          refine V_y (Y_load (El.int h115) Try.isAgg3 rfl) rfl rfl rfl ?_
          refine V_y (Y_subI rfl rfl) rfl rfl rfl ?_
          refine V_buildSlice (l := ([w64 ((if x88.at_ < x107 then x107 else x88.at_) - x88.at_)] : List Int)) (len := 1) Try.underlying23 Try.sizeOf3 Try.zeroValue3 rfl (by with_unfolding_all rfl) (by decide) (by decide) hA ⟨[.int .i64 (w64 ((if x88.at_ < x107 then x107 else x88.at_) - x88.at_))], _, rfl, rfl, rfl⟩ rfl rfl ?_
          intro v116 w117 hk119 h118
          have ht120 := Kp.tr hk119 hA hB
          replace hH := Hp.kp hH hk119
          replace h_calls := Sl.tr h_calls ht120
          replace h98 := El.tr h98 ht120
          replace h115 := El.tr h115 ht120
          replace hK := Tr.trans hK ht120
          replace hr60 := Tr.trans hr60 ht120
          replace hB := Nat.le_trans hB ht120.ex.size
          replace hA := ht120.new
          obtain ⟨x121, hx121, h80⟩ := Option.bind_eq_some_iff.1 h80
          refine V_appendH (e := 3) (v := v75) (l := s71.2) (ti := Try.t3) (bytes := 8) (lim := 17592186044416) hH (i := 0) rfl h118 hx121 Try.underlying23 Try_info3 rfl rfl rfl rfl (by decide) (by decide) (by decide) hB hA rfl rfl rfl ?_
          intro v122 w123 A124 hH125 ht126
          replace h_calls := Sl.tr h_calls ht126
          replace h98 := El.tr h98 ht126
          replace h115 := El.tr h115 ht126
          replace h118 := Sl.tr h118 ht126
          replace hK := Tr.trans hK ht126
          replace hr60 := Tr.trans hr60 ht126
          replace hB := Nat.le_trans hB ht126.ex.size
          replace hA := ht126.new
          replace hH : Hp w.heap.size A124 w123 (obS (α := Int) 3 v122 x121 :: obS (α := Int) 3 v73 s71.1 :: []) := hH125
          refine V_y (Y_assign rfl) rfl rfl rfl ?_
          refine V_to (fun _ _ => rfl) ?_
          refine C_region ?_
          refine V_y (Y_move rfl) rfl rfl rfl ?_
          refine V_y (Y_move rfl) rfl rfl rfl ?_
          refine V_y (Y_move rfl) rfl rfl rfl ?_
          have h127 := El_staff_Call_1 h98
          refine V_y (Y_fieldAddr Try.underlying41 rfl Try.sizeOf3 (by decide) rfl) rfl rfl rfl ?_
          refine V_y (Y_load (El.int h127) Try.isAgg3 rfl) rfl rfl rfl ?_
          refine V_y (Y_addI rfl rfl) rfl rfl rfl ?_
          refine V_indexAddrH (α := Int) (e := 3) (v := v73) (l := s71.1) hH (i := 1) rfl hx107 Try.underlying23 Try.sizeOf3 rfl rfl rfl ?_
          intro b128 o129 h130 hl131
          obtain ⟨x132, hx132, h80⟩ := Option.bind_eq_some_iff.1 h80
          refine V_storeH (α := Int) (e := 3) (v := v73) (l := s71.1) hH (i := 1) rfl hl131 hx132 rfl Try.sizeOf3 rfl hB hA rfl rfl ?_
          intro w133 hH134 ht135
          replace h_calls := Sl.tr h_calls ht135
          replace h98 := El.tr h98 ht135
          replace h127 := El.tr h127 ht135
          replace hK := Tr.trans hK ht135
          replace hr60 := Tr.trans hr60 ht135
          replace hB := Nat.le_trans hB ht135.ex.size
          replace hA := ht135.new
          replace hH : Hp w.heap.size A124 w133 (obS (α := Int) 3 v122 x121 :: obS (α := Int) 3 v73 x132 :: []) := hH134
          refine V_to (fun _ _ => rfl) ?_
          refine C_region ?_
          refine V_y (Y_addI rfl rfl) rfl rfl rfl ?_
          refine V_y (Y_move rfl) rfl rfl rfl ?_
          obtain rfl := Option.some.inj h80
          refine V_end (fun a ha136 => ?_)
          exact ⟨(x132, x121), hlt83, h81, ⟨(v73, v122, A124), ha136.sub ⟨rfl, rfl, rfl, rfl, (congrArg (fun z => some (Value.int .i64 z)) (w64_succ hlt83 hn86)), trivial⟩, ⟨hH, hr60⟩⟩⟩
        · refine C_exit (fun a ha137 => ?_)
          exact ⟨((s71.1, s71.2), v73, v75, A77), ha137.sub ⟨rfl, trivial⟩, ⟨(h84 (eq_of_dec hle82 hc87)).symm, hH, hr60⟩⟩
      rintro ⟨s59, v65, v67, A69⟩ w62 ⟨rfl, hH70, hk63⟩ a ha64
      rw [Lp.andThen_fin] at hm
      replace hK := Tr.trans hK hk63
      replace hB := Nat.le_trans hB hk63.ex.size
      replace hA := hk63.new
      replace hH : Hp w.heap.size A69 w62 (obS (α := Int) 3 v67 s59.2 :: obS (α := Int) 3 v65 s59.1 :: []) := hH70
      refine C_at (n := ⟨79, [], none⟩) (fun _ _ => rfl) ?_ ha64
      refine C_seq ?_
      refine C_region ?_
      refine V_y (Y_move rfl) rfl rfl rfl ?_
      refine V_y (Y_assign rfl) rfl rfl rfl ?_
      refine V_y (Y_assign rfl) rfl rfl rfl ?_
      refine V_to (fun _ _ => rfl) ?_
      obtain rfl := Option.some.inj hm
      refine C_ret ?_
      try simp only [↓inBlock_ret, ↓then_ret]
      exact retQ rfl (Res.two Try.results5 rfl rfl) ⟨v67, rfl, (Hp.ownd hH (i := 0) rfl), hK.kp⟩

set_option maxRecDepth 4000 in
set_option maxHeartbeats 4000000 in
theorem portref2_IsMoment_c (w : World) (m : Int) : Ret Try.prog 16 #[.int .i64 m] w fun v w' => v = .bool (portref2_IsMoment m) ∧ w = w' := by
  generalize hm : portref2_IsMoment m = r
  unfold portref2_IsMoment at hm
  refine enter Try.func16 rfl Try.ntmps16 rfl ?_
  refine C_seq ?_
  refine C_region ?_
  refine V_y (Y_assign rfl) rfl rfl rfl ?_
  refine V_to (fun _ _ => rfl) ?_
  refine C_seq ?_
  refine C_region ?_
  refine V_y (Y_move rfl) rfl rfl rfl ?_
  refine V_y (Y_geq rfl rfl) rfl rfl rfl ?_
  refine V_y (Y_move rfl) rfl rfl rfl ?_
  refine V_cut 3 (fun _ : Unit => [(8, .bool ((decide ((0 : Int) ≤ m)) && (decide (m ≤ 3000000))))]) (fun _ w' => w = w') ?_ ?_
  · simp only [List.take, List.drop]
    rcases Bool.eq_false_or_eq_true (decide ((0 : Int) ≤ m)) with hc1 | hc1
    · refine V_ge rfl rfl rfl hc1 ?_
      refine V_y (Y_move rfl) rfl rfl rfl ?_
      refine V_ge rfl rfl rfl hc1 ?_
      refine V_y (Y_leq rfl rfl) rfl rfl rfl ?_
      refine V_y (Y_pick_te rfl hc1 rfl) rfl rfl rfl ?_
      exact V_end fun a ha => ⟨(), ha.sub ⟨(by rw [hc1]; rfl), trivial⟩, rfl⟩
    · refine V_gn rfl rfl rfl hc1 rfl rfl rfl ?_
      refine V_gn rfl rfl rfl hc1 rfl rfl rfl ?_
      refine V_y (Y_pick_fe rfl hc1 rfl) rfl rfl rfl ?_
      exact V_end fun a ha => ⟨(), ha.sub ⟨(by rw [hc1]; rfl), trivial⟩, rfl⟩
  simp only [List.take, List.drop]
  rintro _ _ rfl
  refine V_y (Y_assign rfl) rfl rfl rfl ?_
  refine V_to (fun _ _ => rfl) ?_
  obtain rfl := hm
  refine C_ret ?_
  try simp only [↓inBlock_ret, ↓then_ret]
  exact retQ rfl (Res.one Try.results16 rfl) ⟨rfl, rfl⟩

set_option maxRecDepth 4000 in
set_option maxHeartbeats 4000000 in
theorem portref2_SimulateOf_c (w : World) {A : Nat → Prop} (hA : ∀ b, w.heap.size ≤ b → A b) (calls : (List staff_Call)) (v_calls : Value) (h_calls : Sl A w v_calls calls) (n : Int) {r : ((List Int) × Int)} (hm : portref2_SimulateOf calls n = some r) : Ret Try.prog 6 #[v_calls, .int .i64 n] w fun v w' => ∃ s0, v = .tuple #[s0, .int .i64 r.2] ∧ Ownd 3 w w' s0 r.1 ∧ Kp w w' := by
  unfold portref2_SimulateOf at hm
  refine enter Try.func6 rfl Try.ntmps6 rfl ?_
  have hA0 := hA
  have hB := Nat.le_refl w.heap.size
  have hK : Tr w.heap.size A w A w := Tr.refl hA
  have hH : Hp w.heap.size A w [] := Hp.nil
  refine C_seq ?_
  refine C_region ?_
  refine V_y (Y_assign rfl) rfl rfl rfl ?_
  refine V_y (Y_assign rfl) rfl rfl rfl ?_
  refine V_to (fun _ _ => rfl) ?_
  refine C_seq ?_
  refine C_seq ?_
  refine C_region ?_
  refine V_y (Y_move rfl) rfl rfl rfl ?_
  refine V_y (Y_lenSl h_calls rfl Try.underlying22 rfl) rfl rfl rfl ?_
  refine V_y (Y_gtr rfl rfl) rfl rfl rfl ?_
  refine V_to (fun _ _ => rfl) ?_
  refine C_cond rfl (fun hc3 => ?_) (fun hc3 => ?_)
  · rw [if_pos hc3] at hm
    refine C_seq ?_
    refine C_region ?_
    refine V_y (Y_assign rfl) rfl rfl rfl ?_
    refine V_y (Y_assign rfl) rfl rfl rfl ?_
    refine V_to (fun _ _ => rfl) ?_
    obtain rfl := Option.some.inj hm
    replace hH : Hp w.heap.size A w (obS (α := Int) 3 (.slice none 0 0) ([] : (List Int)) :: []) := Hp.addNil (α := Int) (e := 3) hH
    refine C_ret ?_
    try simp only [↓inBlock_ret, ↓then_ret]
    exact retQ rfl (Res.two Try.results6 rfl rfl) ⟨.slice none 0 0, rfl, (Hp.ownd hH (i := 0) rfl), hK.kp⟩
  · rw [if_neg (nt hc3)] at hm
    refine C_skip_to (fun _ _ => rfl) ?_
    refine C_seq ?_
    refine C_seq ?_
    refine C_region ?_
    refine V_y (Y_move rfl) rfl rfl rfl ?_
    refine V_y (Y_lenSl h_calls rfl Try.underlying22 rfl) rfl rfl rfl ?_
    refine V_y (Y_move rfl) rfl rfl rfl ?_
    refine V_to (fun _ _ => rfl) ?_
    have hn25 := Sl.le h_calls
    obtain ⟨o4, ho4, hm⟩ := Option.bind_eq_some_iff.1 hm
    refine C_cutG (ι := (Unit × (Nat → Prop))) (fun ⟨s5, A12⟩ => [(0, v_calls), (1, .int .i64 n)]) (fun ⟨s5, A12⟩ => fun w' => o4 = .fin s5 ∧ Hp w.heap.size A12 w' ([]) ∧ Tr w.heap.size A w A12 w') ?_ ?_
    · refine C_block ?_
      refine C_range ho4 (fun k7 _ a w' => ∃ i : (Nat → Prop), Has ⟨88, [], none⟩ a ([(0, v_calls), (1, .int .i64 n), (16, v_calls), (17, .int .i64 (calls.length : Int)), (18, .int .i64 (k7 : Int))]) ∧ Hp w.heap.size i w' ([]) ∧ Tr w.heap.size A w i w') (fun a ha => ⟨A, ha.sub ⟨rfl, rfl, rfl, rfl, rfl, trivial⟩, ⟨hH, Tr.refl hA⟩⟩) ?_
      rintro K k7 _ a w15 ⟨A16, ha62, hH17, hr6⟩ hle21 K24 h23
      refine C_of ?_ ha62
      replace h_calls := Sl.tr h_calls hr6
      replace hK := Tr.trans hK hr6
      replace hB := Nat.le_trans hB hr6.ex.size
      replace hA := hr6.new
      replace hH : Hp w.heap.size A16 w15 ([]) := hH17
      refine C_seq (C_region (V_y (Y_lss rfl rfl) rfl rfl rfl (V_to (fun _ _ => rfl) ?_)))
      refine C_seq ?_
      refine C_cond rfl (fun hc26 => ?_) (fun hc26 => ?_)
      · have hlt22 := lt_of_dec hc26
        obtain ⟨x18, h19, h20⟩ := K24 hlt22
        refine C_skip_to (fun _ _ => rfl) ?_
        refine C_seq ?_
        refine C_block ?_
        refine C_seq ?_
        refine C_region ?_
        refine V_y (Y_move rfl) rfl rfl rfl ?_
        obtain ⟨x27, hx27, h19⟩ := Option.bind_eq_some_iff.1 h19
        refine V_indexAddr h_calls hx27 Try.underlying22 Try.sizeOf41 rfl rfl rfl ?_
        intro b28 o29 h30
        obtain ⟨h31, _⟩ := El_staff_Call h30
        refine V_y (Y_loadA h31 Try.isAgg41 Try.sizeOf41 rfl) rfl rfl rfl ?_
        refine V_alloc Try.zeroValue41 rfl ?_
        intro b32 w33 h34
        refine V_y (Y_assign rfl) rfl rfl rfl ?_
        refine V_storeNew h34 Try.sizeOf41 rfl rfl rfl rfl (by exact (List.forall_mem_cons.2 ⟨rfl, (List.forall_mem_cons.2 ⟨rfl, (fun _ h => nomatch h)⟩)⟩)) ?_
        intro w35 h36
        have hk38 := h36.kp
        have h37 : El (α := staff_Call) A16 w35 b32 0 x27 := h36.el hA ⟨[.int .i64 x27.at_], _, rfl, rfl, rfl⟩
        have ht39 := Kp.tr hk38 hA hB
        replace hH := Hp.kp hH hk38
        replace h_calls := Sl.tr h_calls ht39
        replace h30 := El.tr h30 ht39
        replace hK := Tr.trans hK ht39
        replace hr6 := Tr.trans hr6 ht39
        replace hB := Nat.le_trans hB ht39.ex.size
        replace hA := ht39.new
        refine V_to (fun _ _ => rfl) ?_
        refine C_seq ?_
        refine C_seq ?_
        refine C_region ?_
        have h40 := El_staff_Call_0 h37
        refine V_y (Y_fieldAddr Try.underlying41 rfl Try.sizeOf3 (by decide) rfl) rfl rfl rfl ?_
        refine V_y (Y_load (El.int h40) Try.isAgg3 rfl) rfl rfl rfl ?_
        refine V_call Try.call16 rfl rfl rfl rfl (portref2_IsMoment_c w35 x27.at_) ?_
        rintro _ _ ⟨rfl, rfl⟩
        refine V_y (Y_not rfl) rfl rfl rfl ?_
        refine V_y (Y_move rfl) rfl rfl rfl ?_
        refine V_cut 4 (fun _ : Unit => [(0, v_calls), (1, .int .i64 n), (6, .int .i64 (k7 : Int)), (7, .pointer (some ⟨b32, 0, none⟩)), (16, v_calls), (17, .int .i64 (calls.length : Int)), (18, .int .i64 (k7 : Int)), (31, .bool ((!(portref2_IsMoment x27.at_)) || (decide (x27.length < 1))))]) (fun _ w' => w35 = w') ?_ ?_
        · simp only [List.take, List.drop]
          rcases Bool.eq_false_or_eq_true (!(portref2_IsMoment x27.at_)) with hc41 | hc41
          · refine V_gn rfl rfl rfl hc41 rfl rfl rfl ?_
            refine V_gn rfl rfl rfl hc41 rfl rfl rfl ?_
            refine V_gn rfl rfl rfl hc41 rfl rfl rfl ?_
            refine V_y (Y_pick_te rfl hc41 rfl) rfl rfl rfl ?_
            exact V_end fun a ha => ⟨(), ha.sub ⟨rfl, rfl, rfl, rfl, rfl, rfl, rfl, (by rw [hc41]; rfl), trivial⟩, rfl⟩
          · refine V_ge rfl rfl rfl hc41 ?_
            have h43 := El_staff_Call_1 h37
            refine V_y (Y_fieldAddr Try.underlying41 rfl Try.sizeOf3 (by decide) rfl) rfl rfl rfl ?_
            refine V_ge rfl rfl rfl hc41 ?_
            refine V_y (Y_load (El.int h43) Try.isAgg3 rfl) rfl rfl rfl ?_
            refine V_ge rfl rfl rfl hc41 ?_
            refine V_y (Y_lss rfl rfl) rfl rfl rfl ?_
            refine V_y (Y_pick_fe rfl hc41 rfl) rfl rfl rfl ?_
            exact V_end fun a ha => ⟨(), ha.sub ⟨rfl, rfl, rfl, rfl, rfl, rfl, rfl, (by rw [hc41]; rfl), trivial⟩, rfl⟩
        simp only [List.take, List.drop]
        rintro _ _ rfl
        refine V_y (Y_move rfl) rfl rfl rfl ?_
        refine V_cut 4 (fun _ : Unit => [(0, v_calls), (1, .int .i64 n), (6, .int .i64 (k7 : Int)), (7, .pointer (some ⟨b32, 0, none⟩)), (16, v_calls), (17, .int .i64 (calls.length : Int)), (18, .int .i64 (k7 : Int)), (36, .bool (((!(portref2_IsMoment x27.at_)) || (decide (x27.length < 1))) || (decide ((1440 : Int) < x27.length))))]) (fun _ w' => w35 = w') ?_ ?_
        · simp only [List.take, List.drop]
          rcases Bool.eq_false_or_eq_true (((!(portref2_IsMoment x27.at_)) || (decide (x27.length < 1)))) with hc44 | hc44
          · refine V_gn rfl rfl rfl hc44 rfl rfl rfl ?_
            refine V_gn rfl rfl rfl hc44 rfl rfl rfl ?_
            refine V_gn rfl rfl rfl hc44 rfl rfl rfl ?_
            refine V_y (Y_pick_te rfl hc44 rfl) rfl rfl rfl ?_
            exact V_end fun a ha => ⟨(), ha.sub ⟨rfl, rfl, rfl, rfl, rfl, rfl, rfl, (by rw [hc44]; rfl), trivial⟩, rfl⟩
          · refine V_ge rfl rfl rfl hc44 ?_
            have h46 := El_staff_Call_1 h37
            refine V_y (Y_fieldAddr Try.underlying41 rfl Try.sizeOf3 (by decide) rfl) rfl rfl rfl ?_
            refine V_ge rfl rfl rfl hc44 ?_
            refine V_y (Y_load (El.int h46) Try.isAgg3 rfl) rfl rfl rfl ?_
            refine V_ge rfl rfl rfl hc44 ?_
            refine V_y (Y_gtr rfl rfl) rfl rfl rfl ?_
            refine V_y (Y_pick_fe rfl hc44 rfl) rfl rfl rfl ?_
            exact V_end fun a ha => ⟨(), ha.sub ⟨rfl, rfl, rfl, rfl, rfl, rfl, rfl, (by rw [hc44]; rfl), trivial⟩, rfl⟩
        simp only [List.take, List.drop]
        rintro _ _ rfl
        refine V_to (fun _ _ => rfl) ?_
        refine C_cond rfl (fun hc47 => ?_) (fun hc47 => ?_)
        · rw [if_pos hc47] at h19
          refine C_seq ?_
          refine C_region ?_
          refine V_y (Y_assign rfl) rfl rfl rfl ?_
          refine V_y (Y_assign rfl) rfl rfl rfl ?_
          refine V_to (fun _ _ => rfl) ?_
          obtain rfl := Option.some.inj h19
          obtain rfl := (h20 : Lp.rt _ = _)
          rw [Lp.andThen_rt] at hm
          obtain rfl := Option.some.inj hm
          replace hH : Hp w.heap.size A16 w35 (obS (α := Int) 3 (.slice none 0 0) ([] : (List Int)) :: []) := Hp.addNil (α := Int) (e := 3) hH
          refine C_ret ?_
          try simp only [↓inBlock_ret, ↓then_ret]
          exact retQ rfl (Res.two Try.results6 rfl rfl) ⟨.slice none 0 0, rfl, (Hp.ownd hH (i := 0) rfl), hK.kp⟩
        · rw [if_neg (nt hc47)] at h19
          refine C_skip_to (fun _ _ => rfl) ?_
          refine C_seq ?_
          refine C_region_q Try_mixed (by kernel_rfl) ?_
          refine VQ_y (fun w' hw' => Y_move rfl) rfl rfl rfl ?_
          refine VQ_y (fun w' hw' => Y_gtr rfl rfl) rfl rfl rfl ?_
          refine VQ_y (fun w' hw' => Y_move rfl) rfl rfl rfl ?_
          obtain ⟨s49, hs49, h19⟩ := Option.bind_eq_some_iff.1 h19
          refine VQ_cut 10 (fun _ : Unit => [(0, v_calls), (1, .int .i64 n), (16, v_calls), (17, .int .i64 (calls.length : Int)), (18, .int .i64 (k7 : Int)), (49, .bool s49)]) (fun _ => True) ?_ ?_
          · simp only [List.take, List.drop]
            rcases Bool.eq_false_or_eq_true (decide ((0 : Int) < (k7 : Int))) with hc48 | hc48
            · rw [if_pos hc48] at hs49
              refine VQ_ge rfl rfl rfl hc48 ?_
              have h50 := El_staff_Call_0 h37
              refine VQ_y (fun w' hw' => Y_fieldAddr Try.underlying41 rfl Try.sizeOf3 (by decide) rfl) rfl rfl rfl ?_
              refine VQ_ge rfl rfl rfl hc48 ?_
              refine VQ_y (fun w' hw' => Y_load (El.int (El.kp h50 hw')) Try.isAgg3 rfl) rfl rfl rfl ?_
              refine VQ_ge rfl rfl rfl hc48 ?_
              refine VQ_y (fun w' hw' => Y_move rfl) rfl rfl rfl ?_
              refine VQ_ge rfl rfl rfl hc48 ?_
              refine VQ_y (fun w' hw' => Y_move rfl) rfl rfl rfl ?_
              refine VQ_ge rfl rfl rfl hc48 ?_
              refine VQ_y (fun w' hw' => Y_subI rfl rfl) rfl rfl rfl ?_
              refine VQ_ge rfl rfl rfl hc48 ?_
              obtain ⟨x51, hx51, hs49⟩ := Option.bind_eq_some_iff.1 hs49
              refine VQ_indexAddr h_calls hx51 Try.underlying22 Try.sizeOf41 rfl rfl rfl ?_
              intro b52 o53 h54
              refine VQ_ge rfl rfl rfl hc48 ?_
              have h55 := El_staff_Call_0 h54
              refine VQ_y (fun w' hw' => Y_fieldAddr Try.underlying41 rfl Try.sizeOf3 (by decide) rfl) rfl rfl rfl ?_
              refine VQ_ge rfl rfl rfl hc48 ?_
              refine VQ_y (fun w' hw' => Y_load (El.int (El.kp h55 hw')) Try.isAgg3 rfl) rfl rfl rfl ?_
              refine VQ_ge rfl rfl rfl hc48 ?_
              refine VQ_y (fun w' hw' => Y_lss rfl rfl) rfl rfl rfl ?_
              refine VQ_y (fun _ _ => Y_pick_te rfl hc48 rfl) rfl rfl rfl ?_
              obtain rfl := Option.some.inj hs49
              exact VQ_end fun a ha => ⟨(), ha.sub ⟨rfl, rfl, rfl, rfl, rfl, rfl, trivial⟩, trivial⟩
            · rw [if_neg (nt hc48)] at hs49
              refine VQ_gn rfl rfl rfl hc48 rfl rfl rfl ?_
              refine VQ_gn rfl rfl rfl hc48 rfl rfl rfl ?_
              refine VQ_gn rfl rfl rfl hc48 rfl rfl rfl ?_
              refine VQ_gn rfl rfl rfl hc48 rfl rfl rfl ?_
              refine VQ_gn rfl rfl rfl hc48 rfl rfl rfl ?_
              refine VQ_gn rfl rfl rfl hc48 rfl rfl rfl ?_
              refine VQ_gn rfl rfl rfl hc48 rfl rfl rfl ?_
              refine VQ_gn rfl rfl rfl hc48 rfl rfl rfl ?_
              refine VQ_gn rfl rfl rfl hc48 rfl rfl rfl ?_
              refine VQ_y (fun _ _ => Y_pick_fe rfl hc48 rfl) rfl rfl rfl ?_
              obtain rfl := Option.some.inj hs49
              exact VQ_end fun a ha => ⟨(), ha.sub ⟨rfl, rfl, rfl, rfl, rfl, rfl, trivial⟩, trivial⟩
          simp only [List.take, List.drop]
          rintro _ _
          refine VQ_to (fun _ _ => rfl) (fun w56 hk57 => ?_)
          have ht58 := Kp.tr hk57 hA hB
          replace hH := Hp.kp hH hk57
          replace h_calls := Sl.tr h_calls ht58
          replace hK := Tr.trans hK ht58
          replace hr6 := Tr.trans hr6 ht58
          replace hB := Nat.le_trans hB ht58.ex.size
          replace hA := ht58.new
          refine C_cond rfl (fun hc59 => ?_) (fun hc59 => ?_)
          · rw [if_pos hc59] at h19
            refine C_seq ?_
            refine C_region ?_
            refine V_y (Y_assign rfl) rfl rfl rfl ?_
            refine V_y (Y_assign rfl) rfl rfl rfl ?_
            refine V_to (fun _ _ => rfl) ?_
            obtain rfl := Option.some.inj h19
            obtain rfl := (h20 : Lp.rt _ = _)
            rw [Lp.andThen_rt] at hm
            obtain rfl := Option.some.inj hm
            replace hH : Hp w.heap.size A16 w56 (obS (α := Int) 3 (.slice none 0 0) ([] : (List Int)) :: []) := Hp.addNil (α := Int) (e := 3) hH
            refine C_ret ?_
            try simp only [↓inBlock_ret, ↓then_ret]
            exact retQ rfl (Res.two Try.results6 rfl rfl) ⟨.slice none 0 0, rfl, (Hp.ownd hH (i := 0) rfl), hK.kp⟩
          · rw [if_neg (nt hc59)] at h19
            refine C_skip_to (fun _ _ => rfl) ?_
            refine C_region ?_
            refine V_y (Y_addI rfl rfl) rfl rfl rfl ?_
            refine V_y (Y_move rfl) rfl rfl rfl ?_
            obtain rfl := Option.some.inj h19
            refine V_end (fun a ha60 => ?_)
            exact ⟨(), hlt22, h20, ⟨A16, ha60.sub ⟨rfl, rfl, rfl, rfl, (congrArg (fun z => some (Value.int .i64 z)) (w64_succ hlt22 hn25)), trivial⟩, ⟨hH, hr6⟩⟩⟩
      · refine C_exit (fun a ha61 => ?_)
        exact ⟨((), A16), ha61.sub ⟨rfl, rfl, trivial⟩, ⟨(h23 (eq_of_dec hle21 hc26)).symm, hH, hr6⟩⟩
    rintro ⟨s5, A12⟩ w9 ⟨rfl, hH13, hk10⟩ a ha11
    rw [Lp.andThen_fin] at hm
    replace h_calls := Sl.tr h_calls hk10
    replace hK := Tr.trans hK hk10
    replace hB := Nat.le_trans hB hk10.ex.size
    replace hA := hk10.new
    replace hH : Hp w.heap.size A12 w9 ([]) := hH13
    refine C_at (n := ⟨88, [], none⟩) (fun _ _ => rfl) ?_ ha11
    refine C_seq ?_
    refine C_seq ?_
    refine C_region ?_
    refine V_y (Y_move rfl) rfl rfl rfl ?_
    refine V_y (Y_lss rfl rfl) rfl rfl rfl ?_
    refine V_y (Y_move rfl) rfl rfl rfl ?_
    refine V_cut 3 (fun _ : Unit => [(0, v_calls), (1, .int .i64 n), (56, .bool ((decide (n < 1)) || (decide ((60 : Int) < n))))]) (fun _ w' => w9 = w') ?_ ?_
    · simp only [List.take, List.drop]
      rcases Bool.eq_false_or_eq_true (decide (n < 1)) with hc63 | hc63
      · refine V_gn rfl rfl rfl hc63 rfl rfl rfl ?_
        refine V_gn rfl rfl rfl hc63 rfl rfl rfl ?_
        refine V_y (Y_pick_te rfl hc63 rfl) rfl rfl rfl ?_
        exact V_end fun a ha => ⟨(), ha.sub ⟨rfl, rfl, (by rw [hc63]; rfl), trivial⟩, rfl⟩
      · refine V_ge rfl rfl rfl hc63 ?_
        refine V_y (Y_move rfl) rfl rfl rfl ?_
        refine V_ge rfl rfl rfl hc63 ?_
        refine V_y (Y_gtr rfl rfl) rfl rfl rfl ?_
        refine V_y (Y_pick_fe rfl hc63 rfl) rfl rfl rfl ?_
        exact V_end fun a ha => ⟨(), ha.sub ⟨rfl, rfl, (by rw [hc63]; rfl), trivial⟩, rfl⟩
    simp only [List.take, List.drop]
    rintro _ _ rfl
    refine V_to (fun _ _ => rfl) ?_
    refine C_cond rfl (fun hc65 => ?_) (fun hc65 => ?_)
    · rw [if_pos hc65] at hm
      refine C_seq ?_
      refine C_region ?_
      refine V_y (Y_assign rfl) rfl rfl rfl ?_
      refine V_y (Y_assign rfl) rfl rfl rfl ?_
      refine V_to (fun _ _ => rfl) ?_
      obtain rfl := Option.some.inj hm
      replace hH : Hp w.heap.size A12 w9 (obS (α := Int) 3 (.slice none 0 0) ([] : (List Int)) :: []) := Hp.addNil (α := Int) (e := 3) hH
      refine C_ret ?_
      try simp only [↓inBlock_ret, ↓then_ret]
      exact retQ rfl (Res.two Try.results6 rfl rfl) ⟨.slice none 0 0, rfl, (Hp.ownd hH (i := 0) rfl), hK.kp⟩
    · rw [if_neg (nt hc65)] at hm
      refine C_skip_to (fun _ _ => rfl) ?_
      refine C_seq ?_
      refine C_region ?_
      refine V_y (Y_move rfl) rfl rfl rfl ?_
      obtain ⟨x66, hx66, hm⟩ := Option.bind_eq_some_iff.1 hm
      refine V_makeH (e := 3) (ti := Try.t3) hH hx66 (fun _ _ => rfl) Try.underlying23 Try_info3 rfl rfl rfl (by decide) (by decide) hB hA rfl rfl rfl ?_
      intro v67 w68 A69 hH70 ht71
      replace h_calls := Sl.tr h_calls ht71
      replace hK := Tr.trans hK ht71
      replace hB := Nat.le_trans hB ht71.ex.size
      replace hA := ht71.new
      replace hH : Hp w.heap.size A69 w68 (obS (α := Int) 3 v67 x66 :: []) := hH70
      refine V_y (Y_assign rfl) rfl rfl rfl ?_
      refine V_to (fun _ _ => rfl) ?_
      refine C_seq ?_
      refine C_region ?_
      refine V_y (Y_assign rfl) rfl rfl rfl ?_
      refine V_to (fun _ _ => rfl) ?_
      refine C_seq ?_
      refine C_seq ?_
      refine C_region ?_
      refine V_y (Y_move rfl) rfl rfl rfl ?_
      refine V_y (Y_lenSl h_calls rfl Try.underlying22 rfl) rfl rfl rfl ?_
      refine V_y (Y_move rfl) rfl rfl rfl ?_
      refine V_to (fun _ _ => rfl) ?_
      replace hH : Hp w.heap.size A69 w68 (obS (α := Int) 3 (.slice none 0 0) ([] : (List Int)) :: obS (α := Int) 3 v67 x66 :: []) := Hp.addNil (α := Int) (e := 3) hH
      have hn100 := Sl.le h_calls
      obtain ⟨o72, ho72, hm⟩ := Option.bind_eq_some_iff.1 hm
      refine C_cutG (ι := (((List Int) × (List Int)) × Value × Value × (Nat → Prop))) (fun ⟨s73, v79, v81, A83⟩ => [(9, v81)]) (fun ⟨s73, v79, v81, A83⟩ => fun w' => o72 = .fin s73 ∧ Hp w.heap.size A83 w' (obS (α := Int) 3 v81 s73.2 :: obS (α := Int) 3 v79 s73.1 :: []) ∧ Tr w.heap.size A69 w68 A83 w') ?_ ?_
      · refine C_block ?_
        refine C_range ho72 (fun k75 s85 a w' => ∃ i : (Value × Value × (Nat → Prop)), Has ⟨88, [], none⟩ a ([(8, i.1), (9, i.2.1), (59, v_calls), (60, .int .i64 (calls.length : Int)), (61, .int .i64 (k75 : Int))]) ∧ Hp w.heap.size i.2.2 w' (obS (α := Int) 3 i.2.1 s85.2 :: obS (α := Int) 3 i.1 s85.1 :: []) ∧ Tr w.heap.size A69 w68 i.2.2 w') (fun a ha => ⟨(v67, .slice none 0 0, A69), ha.sub ⟨rfl, rfl, rfl, rfl, rfl, trivial⟩, ⟨hH, Tr.refl hA⟩⟩) ?_
        rintro K k75 s85 a w86 ⟨⟨v87, v89, A91⟩, ha151, hH92, hr74⟩ hle96 K99 h98
        refine C_of ?_ ha151
        replace h_calls := Sl.tr h_calls hr74
        replace hK := Tr.trans hK hr74
        replace hB := Nat.le_trans hB hr74.ex.size
        replace hA := hr74.new
        replace hH : Hp w.heap.size A91 w86 (obS (α := Int) 3 v89 s85.2 :: obS (α := Int) 3 v87 s85.1 :: []) := hH92
        refine C_seq (C_region (V_y (Y_lss rfl rfl) rfl rfl rfl (V_to (fun _ _ => rfl) ?_)))
        refine C_seq ?_
        refine C_cond rfl (fun hc101 => ?_) (fun hc101 => ?_)
        · have hlt97 := lt_of_dec hc101
          obtain ⟨x93, h94, h95⟩ := K99 hlt97
          refine C_skip_to (fun _ _ => rfl) ?_
          refine C_seq ?_
          refine C_block ?_
          refine C_seq ?_
          refine C_region ?_
          obtain ⟨x102, hx102, h94⟩ := Option.bind_eq_some_iff.1 h94
          refine V_indexAddr h_calls hx102 Try.underlying22 Try.sizeOf41 rfl rfl rfl ?_
          intro b103 o104 h105
          obtain ⟨h106, _⟩ := El_staff_Call h105
          refine V_y (Y_loadA h106 Try.isAgg41 Try.sizeOf41 rfl) rfl rfl rfl ?_
          refine V_alloc Try.zeroValue41 rfl ?_
          intro b107 w108 h109
          refine V_storeNew h109 Try.sizeOf41 rfl rfl rfl rfl (by exact (List.forall_mem_cons.2 ⟨rfl, (List.forall_mem_cons.2 ⟨rfl, (fun _ h => nomatch h)⟩)⟩)) ?_
          intro w110 h111
          have hk113 := h111.kp
          have h112 : El (α := staff_Call) A91 w110 b107 0 x102 := h111.el hA ⟨[.int .i64 x102.at_], _, rfl, rfl, rfl⟩
          have ht114 := Kp.tr hk113 hA hB
          replace hH := Hp.kp hH hk113
          replace h_calls := Sl.tr h_calls ht114
          replace h105 := El.tr h105 ht114
          replace hK := Tr.trans hK ht114
          replace hr74 := Tr.trans hr74 ht114
          replace hB := Nat.le_trans hB ht114.ex.size
          replace hA := ht114.new
          refine V_to (fun _ _ => rfl) ?_
          refine C_seq ?_
          refine C_region ?_
          refine V_y (Y_move rfl) rfl rfl rfl ?_
          obtain ⟨x115, hx115, h94⟩ := Option.bind_eq_some_iff.1 h94
          refine V_call Try.call17 rfl rfl rfl rfl (Try_sortInts hH (i := 1) rfl hB hA hx115) ?_
          rintro _ w116 ⟨rfl, hH117, ht118⟩
          replace h_calls := Sl.tr h_calls ht118
          replace h112 := El.tr h112 ht118
          replace hK := Tr.trans hK ht118
          replace hr74 := Tr.trans hr74 ht118
          replace hB := Nat.le_trans hB ht118.ex.size
          replace hA := ht118.new
          replace hH : Hp w.heap.size A91 w116 (obS (α := Int) 3 v89 s85.2 :: obS (α := Int) 3 v87 x115 :: []) := hH117
          refine V_to (fun _ _ => rfl) ?_
          refine C_seq ?_
          refine C_region_q Try_mixed (by kernel_rfl) ?_
          have h119 := El_staff_Call_0 h112
          refine VQ_y (fun w' hw' => Y_fieldAddr Try.underlying41 rfl Try.sizeOf3 (by decide) rfl) rfl rfl rfl ?_
          refine VQ_y (fun w' hw' => Y_load (El.int (El.kp h119 hw')) Try.isAgg3 rfl) rfl rfl rfl ?_
          refine VQ_y (fun w' hw' => Y_move rfl) rfl rfl rfl ?_
          obtain ⟨x120, hx120, h94⟩ := Option.bind_eq_some_iff.1 h94
          refine VQ_indexAddrH (α := Int) (e := 3) (v := v87) (l := x115) hH (i := 1) rfl hx120 Try.underlying23 Try.sizeOf3 rfl rfl rfl ?_
          intro b121 o122 h123 hl124
          refine VQ_y (fun w' hw' => Y_load (El.int (El.kp h123 hw')) Try.isAgg3 rfl) rfl rfl rfl ?_
          refine VQ_y (fun w' hw' => Y_max2 rfl rfl) rfl rfl rfl ?_
          refine VQ_y (fun w' hw' => Y_assign rfl) rfl rfl rfl ?_
          refine VQ_to (fun _ _ => rfl) (fun w125 hk126 => ?_)
          have ht127 := Kp.tr hk126 hA hB
          replace hH := Hp.kp hH hk126
          replace h_calls := Sl.tr h_calls ht127
          replace h112 := El.tr h112 ht127
          replace hK := Tr.trans hK ht127
          replace hr74 := Tr.trans hr74 ht127
          replace hB := Nat.le_trans hB ht127.ex.size
          replace hA := ht127.new
          refine C_seq ?_
          refine C_region ?_
          refine V_y (Y_move rfl) rfl rfl rfl ?_
          refine V_y (Y_move rfl) rfl rfl rfl ?_
          have h128 := El_staff_Call_1 h112
          refine V_y (Y_fieldAddr Try.underlying41 rfl Try.sizeOf3 (by decide) rfl) rfl rfl rfl ?_
          refine V_y (Y_load (El.int h128) Try.isAgg3 rfl) rfl rfl rfl ?_
          refine V_y (Y_addI rfl rfl) rfl rfl rfl ?_
          refine V_indexAddrH (α := Int) (e := 3) (v := v87) (l := x115) hH (i := 1) rfl hx120 Try.underlying23 Try.sizeOf3 rfl rfl rfl ?_
          intro b129 o130 h131 hl132
          obtain ⟨x133, hx133, h94⟩ := Option.bind_eq_some_iff.1 h94
          refine V_storeH (α := Int) (e := 3) (v := v87) (l := x115) hH (i := 1) rfl hl132 hx133 rfl Try.sizeOf3 rfl hB hA rfl rfl ?_
          intro w134 hH135 ht136
          replace h_calls := Sl.tr h_calls ht136
          replace h112 := El.tr h112 ht136
          replace h128 := El.tr h128 ht136
          replace hK := Tr.trans hK ht136
          replace hr74 := Tr.trans hr74 ht136
          replace hB := Nat.le_trans hB ht136.ex.size
          replace hA := ht136.new
          replace hH : Hp w.heap.size A91 w134 (obS (α := Int) 3 v89 s85.2 :: obS (α := Int) 3 v87 x133 :: []) := hH135
          refine V_to (fun _ _ => rfl) ?_
          refine C_region ?_
          refine V_y (Y_move rfl) rfl rfl rfl ?_
          refine V_y (Y_move rfl) rfl rfl rfl ?_
          have h137 := El_staff_Call_0 h112
          refine V_y (Y_fieldAddr Try.underlying41 rfl Try.sizeOf3 (by decide) rfl) rfl rfl rfl ?_
          refine V_y (Y_load (El.int h137) Try.isAgg3 rfl) rfl rfl rfl ?_
          refine V_y (Y_subI rfl rfl) rfl rfl rfl ?_
          refine V_buildSlice (l := ([w64 ((if x102.at_ < x120 then x120 else x102.at_) - x102.at_)] : List Int)) (len := 1) Try.underlying23 Try.sizeOf3 Try.zeroValue3 rfl (by with_unfolding_all rfl) (by decide) (by decide) hA ⟨[.int .i64 (w64 ((if x102.at_ < x120 then x120 else x102.at_) - x102.at_))], _, rfl, rfl, rfl⟩ rfl rfl ?_
          intro v138 w139 hk141 h140
          have ht142 := Kp.tr hk141 hA hB
          replace hH := Hp.kp hH hk141
          replace h_calls := Sl.tr h_calls ht142
          replace h112 := El.tr h112 ht142
          replace h137 := El.tr h137 ht142
          replace hK := Tr.trans hK ht142
          replace hr74 := Tr.trans hr74 ht142
          replace hB := Nat.le_trans hB ht142.ex.size
          replace hA := ht142.new
          obtain ⟨x143, hx143, h94⟩ := Option.bind_eq_some_iff.1 h94
          refine V_appendH (e := 3) (v := v89) (l := s85.2) (ti := Try.t3) (bytes := 8) (lim := 17592186044416) hH (i := 0) rfl h140 hx143 Try.underlying23 Try_info3 rfl rfl rfl rfl (by decide) (by decide) (by decide) hB hA rfl rfl rfl ?_
          intro v144 w145 A146 hH147 ht148
          replace h_calls := Sl.tr h_calls ht148
          replace h112 := El.tr h112 ht148
          replace h137 := El.tr h137 ht148
          replace h140 := Sl.tr h140 ht148
          replace hK := Tr.trans hK ht148
          replace hr74 := Tr.trans hr74 ht148
          replace hB := Nat.le_trans hB ht148.ex.size
          replace hA := ht148.new
          replace hH : Hp w.heap.size A146 w145 (obS (α := Int) 3 v144 x143 :: obS (α := Int) 3 v87 x133 :: []) := hH147
          refine V_y (Y_assign rfl) rfl rfl rfl ?_
          refine V_to (fun _ _ => rfl) ?_
          refine C_region ?_
          refine V_y (Y_addI rfl rfl) rfl rfl rfl ?_
          refine V_y (Y_move rfl) rfl rfl rfl ?_
          obtain rfl := Option.some.inj h94
          refine V_end (fun a ha149 => ?_)
          exact ⟨(x133, x143), hlt97, h95, ⟨(v87, v144, A146), ha149.sub ⟨rfl, rfl, rfl, rfl, (congrArg (fun z => some (Value.int .i64 z)) (w64_succ hlt97 hn100)), trivial⟩, ⟨hH, hr74⟩⟩⟩
        · refine C_exit (fun a ha150 => ?_)
          exact ⟨((s85.1, s85.2), v87, v89, A91), ha150.sub ⟨rfl, trivial⟩, ⟨(h98 (eq_of_dec hle96 hc101)).symm, hH, hr74⟩⟩
      rintro ⟨s73, v79, v81, A83⟩ w76 ⟨rfl, hH84, hk77⟩ a ha78
      rw [Lp.andThen_fin] at hm
      replace hK := Tr.trans hK hk77
      replace hB := Nat.le_trans hB hk77.ex.size
      replace hA := hk77.new
      replace hH : Hp w.heap.size A83 w76 (obS (α := Int) 3 v81 s73.2 :: obS (α := Int) 3 v79 s73.1 :: []) := hH84
      refine C_at (n := ⟨88, [], none⟩) (fun _ _ => rfl) ?_ ha78
      refine C_seq ?_
      refine C_region ?_
      refine V_y (Y_move rfl) rfl rfl rfl ?_
      refine V_y (Y_assign rfl) rfl rfl rfl ?_
      refine V_y (Y_assign rfl) rfl rfl rfl ?_
      refine V_to (fun _ _ => rfl) ?_
      obtain rfl := Option.some.inj hm
      refine C_ret ?_
      try simp only [↓inBlock_ret, ↓then_ret]
      exact retQ rfl (Res.two Try.results6 rfl rfl) ⟨v81, rfl, (Hp.ownd hH (i := 0) rfl), hK.kp⟩

set_option maxRecDepth 4000 in
set_option maxHeartbeats 4000000 in
theorem slices_Equal_Lint_int_c (w : World) {A : Nat → Prop} (hA : ∀ b, w.heap.size ≤ b → A b) (s1 : (List Int)) (v_s1 : Value) (h_s1 : Sl A w v_s1 s1) (s2 : (List Int)) (v_s2 : Value) (h_s2 : Sl A w v_s2 s2) {r : Bool} (hm : slices_Equal_Lint_int s1 s2 = some r) : Ret Try.prog 7 #[v_s1, v_s2] w fun v w' => v = .bool r ∧ Kp w w' := by
  unfold slices_Equal_Lint_int at hm
  refine enter Try.func7 rfl Try.ntmps7 rfl ?_
  have hA0 := hA
  have hB := Nat.le_refl w.heap.size
  have hK : Tr w.heap.size A w A w := Tr.refl hA
  have hH : Hp w.heap.size A w [] := Hp.nil
  refine C_seq ?_
  refine C_region ?_
  refine V_y (Y_assign rfl) rfl rfl rfl ?_
  refine V_to (fun _ _ => rfl) ?_
  refine C_seq ?_
  refine C_seq ?_
  refine C_region ?_
  refine V_y (Y_move rfl) rfl rfl rfl ?_
  refine V_y (Y_lenSl h_s1 rfl Try.underlying23 rfl) rfl rfl rfl ?_
  refine V_y (Y_move rfl) rfl rfl rfl ?_
  refine V_y (Y_lenSl h_s2 rfl Try.underlying23 rfl) rfl rfl rfl ?_
  refine V_y (Y_neq rfl rfl) rfl rfl rfl ?_
  refine V_to (fun _ _ => rfl) ?_
  refine C_cond rfl (fun hc5 => ?_) (fun hc5 => ?_)
  · rw [if_pos hc5] at hm
    refine C_seq ?_
    refine C_region ?_
    refine V_y (Y_assign rfl) rfl rfl rfl ?_
    refine V_to (fun _ _ => rfl) ?_
    obtain rfl := Option.some.inj hm
    refine C_ret ?_
    try simp only [↓inBlock_ret, ↓then_ret]
    exact retQ rfl (Res.one Try.results7 rfl) ⟨rfl, hK.kp⟩
  · rw [if_neg (nt hc5)] at hm
    refine C_skip_to (fun _ _ => rfl) ?_
    refine C_seq ?_
    refine C_seq ?_
    refine C_region ?_
    refine V_y (Y_move rfl) rfl rfl rfl ?_
    refine V_y (Y_lenSl h_s1 rfl Try.underlying23 rfl) rfl rfl rfl ?_
    refine V_y (Y_move rfl) rfl rfl rfl ?_
    refine V_to (fun _ _ => rfl) ?_
    have hn27 := Sl.le h_s1
    obtain ⟨o6, ho6, hm⟩ := Option.bind_eq_some_iff.1 hm
    refine C_cutG (ι := (Unit × (Nat → Prop))) (fun ⟨s7, A13⟩ => []) (fun ⟨s7, A13⟩ => fun w' => o6 = .fin s7 ∧ Hp w.heap.size A13 w' ([]) ∧ Tr w.heap.size A w A13 w') ?_ ?_
    · refine C_block ?_
      refine C_range ho6 (fun k9 _ a w' => ∃ i : (Nat → Prop), Has ⟨26, [], none⟩ a ([(0, v_s1), (1, v_s2), (12, .int .i64 (s1.length : Int)), (13, .int .i64 (k9 : Int))]) ∧ Hp w.heap.size i w' ([]) ∧ Tr w.heap.size A w i w') (fun a ha => ⟨A, ha.sub ⟨rfl, rfl, rfl, rfl, trivial⟩, ⟨hH, Tr.refl hA⟩⟩) ?_
      rintro K k9 _ a w17 ⟨A18, ha43, hH19, hr8⟩ hle23 K26 h25
      refine C_of ?_ ha43
      replace h_s1 := Sl.tr h_s1 hr8
      replace h_s2 := Sl.tr h_s2 hr8
      replace hK := Tr.trans hK hr8
      replace hB := Nat.le_trans hB hr8.ex.size
      replace hA := hr8.new
      replace hH : Hp w.heap.size A18 w17 ([]) := hH19
      refine C_seq (C_region (V_y (Y_lss rfl rfl) rfl rfl rfl (V_to (fun _ _ => rfl) ?_)))
      refine C_seq ?_
      refine C_cond rfl (fun hc28 => ?_) (fun hc28 => ?_)
      · have hlt24 := lt_of_dec hc28
        obtain ⟨x20, h21, h22⟩ := K26 hlt24
        refine C_skip_to (fun _ _ => rfl) ?_
        refine C_seq ?_
        refine C_block ?_
        refine C_seq ?_
        refine C_region ?_
        refine V_y (Y_move rfl) rfl rfl rfl ?_
        refine V_y (Y_assign rfl) rfl rfl rfl ?_
        refine V_to (fun _ _ => rfl) ?_
        refine C_seq ?_
        refine C_region_q Try_mixed (by kernel_rfl) ?_
        refine VQ_y (fun w' hw' => Y_move rfl) rfl rfl rfl ?_
        refine VQ_y (fun w' hw' => Y_move rfl) rfl rfl rfl ?_
        obtain ⟨x29, hx29, h21⟩ := Option.bind_eq_some_iff.1 h21
        refine VQ_indexAddr h_s1 hx29 Try.underlying23 Try.sizeOf3 rfl rfl rfl ?_
        intro b30 o31 h32
        refine VQ_y (fun w' hw' => Y_load (El.int (El.kp h32 hw')) Try.isAgg3 rfl) rfl rfl rfl ?_
        refine VQ_y (fun w' hw' => Y_move rfl) rfl rfl rfl ?_
        refine VQ_y (fun w' hw' => Y_move rfl) rfl rfl rfl ?_
        obtain ⟨x33, hx33, h21⟩ := Option.bind_eq_some_iff.1 h21
        refine VQ_indexAddr h_s2 hx33 Try.underlying23 Try.sizeOf3 rfl rfl rfl ?_
        intro b34 o35 h36
        refine VQ_y (fun w' hw' => Y_load (El.int (El.kp h36 hw')) Try.isAgg3 rfl) rfl rfl rfl ?_
        refine VQ_y (fun w' hw' => Y_neq rfl rfl) rfl rfl rfl ?_
        refine VQ_to (fun _ _ => rfl) (fun w37 hk38 => ?_)
        have ht39 := Kp.tr hk38 hA hB
        replace hH := Hp.kp hH hk38
        replace h_s1 := Sl.tr h_s1 ht39
        replace h_s2 := Sl.tr h_s2 ht39
        replace hK := Tr.trans hK ht39
        replace hr8 := Tr.trans hr8 ht39
        replace hB := Nat.le_trans hB ht39.ex.size
        replace hA := ht39.new
        refine C_cond rfl (fun hc40 => ?_) (fun hc40 => ?_)
        · rw [if_pos hc40] at h21
          refine C_seq ?_
          refine C_region ?_
          refine V_y (Y_assign rfl) rfl rfl rfl ?_
          refine V_to (fun _ _ => rfl) ?_
          obtain rfl := Option.some.inj h21
          obtain rfl := (h22 : Lp.rt _ = _)
          rw [Lp.andThen_rt] at hm
          obtain rfl := Option.some.inj hm
          refine C_ret ?_
          try simp only [↓inBlock_ret, ↓then_ret]
          exact retQ rfl (Res.one Try.results7 rfl) ⟨rfl, hK.kp⟩
        · rw [if_neg (nt hc40)] at h21
          refine C_skip_to (fun _ _ => rfl) ?_
          refine C_region ?_
          refine V_y (Y_addI rfl rfl) rfl rfl rfl ?_
          refine V_y (Y_move rfl) rfl rfl rfl ?_
          obtain rfl := Option.some.inj h21
          refine V_end (fun a ha41 => ?_)
          exact ⟨(), hlt24, h22, ⟨A18, ha41.sub ⟨rfl, rfl, rfl, (congrArg (fun z => some (Value.int .i64 z)) (w64_succ hlt24 hn27)), trivial⟩, ⟨hH, hr8⟩⟩⟩
      · refine C_exit (fun a ha42 => ?_)
        exact ⟨((), A18), ha42.sub trivial, ⟨(h25 (eq_of_dec hle23 hc28)).symm, hH, hr8⟩⟩
    rintro ⟨s7, A13⟩ w10 ⟨rfl, hH14, hk11⟩ a ha12
    rw [Lp.andThen_fin] at hm
    replace hK := Tr.trans hK hk11
    replace hB := Nat.le_trans hB hk11.ex.size
    replace hA := hk11.new
    replace hH : Hp w.heap.size A13 w10 ([]) := hH14
    refine C_at (n := ⟨26, [], none⟩) (fun _ _ => rfl) ?_ ha12
    refine C_seq ?_
    refine C_region ?_
    refine V_y (Y_assign rfl) rfl rfl rfl ?_
    refine V_to (fun _ _ => rfl) ?_
    obtain rfl := Option.some.inj hm
    refine C_ret ?_
    try simp only [↓inBlock_ret, ↓then_ret]
    exact retQ rfl (Res.one Try.results7 rfl) ⟨rfl, hK.kp⟩

set_option maxRecDepth 4000 in
set_option maxHeartbeats 4000000 in
theorem portlaw2_StaffSimulates_c (w : World) {A : Nat → Prop} (hA : ∀ b, w.heap.size ≤ b → A b) (calls : (List staff_Call)) (v_calls : Value) (h_calls : Sl A w v_calls calls) (n : Int) {r : Bool} (hm : portlaw2_StaffSimulates calls n = some r) : Ret Try.prog 3 #[v_calls, .int .i64 n] w fun v w' => v = .bool r ∧ Kp w w' := by
  unfold portlaw2_StaffSimulates at hm
  refine enter Try.func3 rfl Try.ntmps3 rfl ?_
  have hA0 := hA
  have hB := Nat.le_refl w.heap.size
  have hK : Tr w.heap.size A w A w := Tr.refl hA
  have hH : Hp w.heap.size A w [] := Hp.nil
  refine C_seq ?_
  refine C_region ?_
  refine V_y (Y_assign rfl) rfl rfl rfl ?_
  refine V_to (fun _ _ => rfl) ?_
  refine C_seq ?_
  refine C_region ?_
  refine V_y (Y_move rfl) rfl rfl rfl ?_
  refine V_y (Y_move rfl) rfl rfl rfl ?_
  obtain ⟨x3, hx3, hm⟩ := Option.bind_eq_some_iff.1 hm
  refine V_call Try.call5 rfl rfl rfl rfl (staff_Simulate_c w hA calls v_calls h_calls n hx3) ?_
  rintro _ w6 ⟨v4, rfl, h5, hk7⟩
  obtain ⟨A8, ht9, hH10⟩ := Hp.addOwnd hH hB hA hk7 h5
  replace h_calls := Sl.tr h_calls ht9
  replace hK := Tr.trans hK ht9
  replace hB := Nat.le_trans hB ht9.ex.size
  replace hA := ht9.new
  replace hH : Hp w.heap.size A8 w6 (obS (α := Int) 3 v4 x3.1 :: []) := hH10
  refine V_y (Y_move rfl) rfl rfl rfl ?_
  refine V_y (Y_extract rfl rfl) rfl rfl rfl ?_
  refine V_y (Y_extract rfl rfl) rfl rfl rfl ?_
  refine V_y (Y_assign rfl) rfl rfl rfl ?_
  refine V_y (Y_assign rfl) rfl rfl rfl ?_
  refine V_to (fun _ _ => rfl) ?_
  refine C_seq ?_
  refine C_region ?_
  refine V_y (Y_move rfl) rfl rfl rfl ?_
  refine V_y (Y_move rfl) rfl rfl rfl ?_
  obtain ⟨x11, hx11, hm⟩ := Option.bind_eq_some_iff.1 hm
  refine V_call Try.call6 rfl rfl rfl rfl (portref2_SimulateOf_c w6 hA calls v_calls h_calls n hx11) ?_
  rintro _ w14 ⟨v12, rfl, h13, hk15⟩
  obtain ⟨A16, ht17, hH18⟩ := Hp.addOwnd hH hB hA hk15 h13
  replace h_calls := Sl.tr h_calls ht17
  replace hK := Tr.trans hK ht17
  replace hB := Nat.le_trans hB ht17.ex.size
  replace hA := ht17.new
  replace hH : Hp w.heap.size A16 w14 (obS (α := Int) 3 v12 x11.1 :: obS (α := Int) 3 v4 x3.1 :: []) := hH18
  refine V_y (Y_move rfl) rfl rfl rfl ?_
  refine V_y (Y_extract rfl rfl) rfl rfl rfl ?_
  refine V_y (Y_extract rfl rfl) rfl rfl rfl ?_
  refine V_y (Y_assign rfl) rfl rfl rfl ?_
  refine V_y (Y_assign rfl) rfl rfl rfl ?_
  refine V_to (fun _ _ => rfl) ?_
  refine C_seq ?_
  obtain ⟨s20, ho19, hm⟩ := Option.bind_eq_some_iff.1 hm
  refine C_cutG (ι := (Nat → Prop)) (fun (A25 : (Nat → Prop)) => [(4, .bool s20)]) (fun (A25 : (Nat → Prop)) => fun w' => Hp w.heap.size A25 w' (obS (α := Int) 3 v12 x11.1 :: obS (α := Int) 3 v4 x3.1 :: []) ∧ Tr w.heap.size A16 w14 A25 w') ?_ ?_
  · have hr21 : Tr w.heap.size A16 w14 A16 w14 := Tr.refl hA
    refine C_region ?_
    refine V_y (Y_move rfl) rfl rfl rfl ?_
    refine V_y (Y_move rfl) rfl rfl rfl ?_
    refine V_y (Y_eql rfl rfl) rfl rfl rfl ?_
    refine V_y (Y_move rfl) rfl rfl rfl ?_
    rcases Bool.eq_false_or_eq_true (x3.2 == x11.2) with hc27 | hc27
    · rw [if_pos hc27] at ho19
      refine V_ge rfl rfl rfl hc27 ?_
      refine V_y (Y_move rfl) rfl rfl rfl ?_
      refine V_ge rfl rfl rfl hc27 ?_
      refine V_y (Y_move rfl) rfl rfl rfl ?_
      refine V_ge rfl rfl rfl hc27 ?_
      obtain ⟨x28, hx28, ho19⟩ := Option.bind_eq_some_iff.1 ho19
      refine V_call Try.call7 rfl rfl rfl rfl (slices_Equal_Lint_int_c w14 (A := fun _ => True) (fun _ _ => trivial) x3.1 v4 (Hp.any (α := Int) (e := 3) (v := v4) (l := x3.1) hH (i := 1) rfl) x11.1 v12 (Hp.any (α := Int) (e := 3) (v := v12) (l := x11.1) hH (i := 0) rfl) hx28) ?_
      rintro _ w29 ⟨rfl, hk30⟩
      have ht31 := Kp.tr hk30 hA hB
      replace hH := Hp.kp hH hk30
      replace hK := Tr.trans hK ht31
      replace hr21 := Tr.trans hr21 ht31
      replace hB := Nat.le_trans hB ht31.ex.size
      replace hA := ht31.new
      refine V_y (Y_pick_te rfl hc27 rfl) rfl rfl rfl ?_
      refine V_y (Y_assign rfl) rfl rfl rfl ?_
      obtain rfl := Option.some.inj ho19
      refine V_end (fun a ha32 => ?_)
      exact ⟨A16, ha32.sub ⟨rfl, trivial⟩, ⟨hH, hr21⟩⟩
    · rw [if_neg (nt hc27)] at ho19
      refine V_gn rfl rfl rfl hc27 rfl rfl rfl ?_
      refine V_gn rfl rfl rfl hc27 rfl rfl rfl ?_
      refine V_gn rfl rfl rfl hc27 rfl rfl rfl ?_
      refine V_y (Y_pick_fe rfl hc27 rfl) rfl rfl rfl ?_
      refine V_y (Y_assign rfl) rfl rfl rfl ?_
      obtain rfl := Option.some.inj ho19
      refine V_end (fun a ha33 => ?_)
      exact ⟨A16, ha33.sub ⟨rfl, trivial⟩, ⟨hH, hr21⟩⟩
  rintro A25 w22 ⟨hH26, hk23⟩ a ha24
  replace hK := Tr.trans hK hk23
  replace hB := Nat.le_trans hB hk23.ex.size
  replace hA := hk23.new
  replace hH : Hp w.heap.size A25 w22 (obS (α := Int) 3 v12 x11.1 :: obS (α := Int) 3 v4 x3.1 :: []) := hH26
  refine C_at (n := ⟨29, [], none⟩) (fun _ _ => rfl) ?_ ha24
  obtain rfl := Option.some.inj hm
  refine C_ret ?_
  try simp only [↓inBlock_ret, ↓then_ret]
  exact retQ rfl (Res.one Try.results3 rfl) ⟨rfl, hK.kp⟩

end Go.Proofs.Ytklcifchnpnpnaa.W
