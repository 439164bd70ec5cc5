/-
  Written by program (gen.py) from the IR of the dump: each function computes its model.
-/
import Derived.Test.YtcehkbhloaeflaaDoorProg
import Derived.Test.YtcehkbhloaeflaaDoorGe
import Derived.Test.YtcehkbhloaeflaaDoorTopStaffedM
import Derived.KernelRfl
import Derived.Test.YtcehkbhloaeflaaDoorGv
namespace Go.Proofs.YtcehkbhloaeflaaDoor.W
open Go Go.RowKit Go.Pu Go.Gw Go.Proofs Go.Proofs.YtcehkbhloaeflaaDoor.M
set_option linter.unusedVariables false
set_option linter.unusedSimpArgs false

theorem Tryd_info3 : Tryd.prog.info? 3 = some Tryd.t3 := by kernel_rfl
theorem Tryd_places39 : ∀ fs, Tryd.prog.underlying 39 = some (.struct fs) → ∀ w : World, (Array.mapM (fun (f : Field) => do pure (f.offset, ← Go.sizeOf f.type)) fs).run Tryd.prog w = .ok #[(0, 1), (1, 1)] w := by
  intro fs h w
  rw [Tryd.underlying39] at h
  cases h
  kernel_rfl
theorem Tryd_places59 : ∀ fs, Tryd.prog.underlying 59 = some (.struct fs) → ∀ w : World, (Array.mapM (fun (f : Field) => do pure (f.offset, ← Go.sizeOf f.type)) fs).run Tryd.prog w = .ok #[(0, 1), (1, 1)] w := by
  intro fs h w
  rw [Tryd.underlying59] at h
  cases h
  kernel_rfl
theorem Tryd_mixed : Tryd.prog.follows .mixedOrders = true := by kernel_rfl

instance : GoT staff_Load := GoT.of (β := Int × Int × Int) fun x => (x.calls, x.length, x.span)

instance : Flat staff_Load := ⟨fun {A w A1 w1 cs x} h => Flat.flat (α := Int × Int × Int) (x := (x.calls, x.length, x.span)) (A := A) (w := w) h⟩

theorem El_staff_Load_ {A : Nat → Prop} {w : World} {b off : Nat} {x : staff_Load} (h : El A w b off x) : El (α := Int × Int × Int) A w b off (x.calls, x.length, x.span) := h

theorem El_staff_Load_0 {A : Nat → Prop} {w : World} {b off : Nat} {x : staff_Load} (h : El A w b off x) : El A w b (off + 0) x.calls := El.fst (El_staff_Load_ h)

theorem El_staff_Load_1 {A : Nat → Prop} {w : World} {b off : Nat} {x : staff_Load} (h : El A w b off x) : El A w b (off + 1) x.length := El.fst (El.snd (El_staff_Load_ h))

theorem El_staff_Load_2 {A : Nat → Prop} {w : World} {b off : Nat} {x : staff_Load} (h : El A w b off x) : El A w b (off + 2) x.span := El.snd (El.snd (El_staff_Load_ h))

theorem El_staff_Load {A : Nat → Prop} {w : World} {b off : Nat} {x : staff_Load} (h : El A w b off x) : At w b off [.int .i64 x.calls, .int .i64 x.length, .int .i64 x.span] ∧ True := by
  obtain ⟨h1, h2, cs, h3, h4⟩ := h
  obtain ⟨_, _, rfl, rfl, ⟨_, _, rfl, rfl, rfl⟩⟩ := h3
  exact ⟨h4, trivial⟩

instance : GoT staff_Promise := GoT.of (β := Int × Int × Int × Int) fun x => (x.share, x.of, x.wait, x.parts)

instance : Flat staff_Promise := ⟨fun {A w A1 w1 cs x} h => Flat.flat (α := Int × Int × Int × Int) (x := (x.share, x.of, x.wait, x.parts)) (A := A) (w := w) h⟩

theorem El_staff_Promise_ {A : Nat → Prop} {w : World} {b off : Nat} {x : staff_Promise} (h : El A w b off x) : El (α := Int × Int × Int × Int) A w b off (x.share, x.of, x.wait, x.parts) := h

theorem El_staff_Promise_0 {A : Nat → Prop} {w : World} {b off : Nat} {x : staff_Promise} (h : El A w b off x) : El A w b (off + 0) x.share := El.fst (El_staff_Promise_ h)

theorem El_staff_Promise_1 {A : Nat → Prop} {w : World} {b off : Nat} {x : staff_Promise} (h : El A w b off x) : El A w b (off + 1) x.of := El.fst (El.snd (El_staff_Promise_ h))

theorem El_staff_Promise_2 {A : Nat → Prop} {w : World} {b off : Nat} {x : staff_Promise} (h : El A w b off x) : El A w b (off + 2) x.wait := El.fst (El.snd (El.snd (El_staff_Promise_ h)))

theorem El_staff_Promise_3 {A : Nat → Prop} {w : World} {b off : Nat} {x : staff_Promise} (h : El A w b off x) : El A w b (off + 3) x.parts := El.snd (El.snd (El.snd (El_staff_Promise_ h)))

theorem El_staff_Promise {A : Nat → Prop} {w : World} {b off : Nat} {x : staff_Promise} (h : El A w b off x) : At w b off [.int .i64 x.share, .int .i64 x.of, .int .i64 x.wait, .int .i64 x.parts] ∧ True := by
  obtain ⟨h1, h2, cs, h3, h4⟩ := h
  obtain ⟨_, _, rfl, rfl, ⟨_, _, rfl, rfl, ⟨_, _, rfl, rfl, rfl⟩⟩⟩ := h3
  exact ⟨h4, trivial⟩

instance : GoT staff_Form := GoT.of (β := Int × Int) fun x => (x.from_, x.slots)

instance : Flat staff_Form := ⟨fun {A w A1 w1 cs x} h => Flat.flat (α := Int × Int) (x := (x.from_, x.slots)) (A := A) (w := w) h⟩

theorem El_staff_Form_ {A : Nat → Prop} {w : World} {b off : Nat} {x : staff_Form} (h : El A w b off x) : El (α := Int × Int) A w b off (x.from_, x.slots) := h

theorem El_staff_Form_0 {A : Nat → Prop} {w : World} {b off : Nat} {x : staff_Form} (h : El A w b off x) : El A w b (off + 0) x.from_ := El.fst (El_staff_Form_ h)

theorem El_staff_Form_1 {A : Nat → Prop} {w : World} {b off : Nat} {x : staff_Form} (h : El A w b off x) : El A w b (off + 1) x.slots := El.snd (El_staff_Form_ h)

theorem El_staff_Form {A : Nat → Prop} {w : World} {b off : Nat} {x : staff_Form} (h : El A w b off x) : At w b off [.int .i64 x.from_, .int .i64 x.slots] ∧ True := by
  obtain ⟨h1, h2, cs, h3, h4⟩ := h
  obtain ⟨_, _, rfl, rfl, rfl⟩ := h3
  exact ⟨h4, trivial⟩

instance : GoT staff_Ratio := GoT.of (β := ByteArray × ByteArray) fun x => (x.num, x.den)

instance : Flat staff_Ratio := ⟨fun {A w A1 w1 cs x} h => Flat.flat (α := ByteArray × ByteArray) (x := (x.num, x.den)) (A := A) (w := w) h⟩

theorem El_staff_Ratio_ {A : Nat → Prop} {w : World} {b off : Nat} {x : staff_Ratio} (h : El A w b off x) : El (α := ByteArray × ByteArray) A w b off (x.num, x.den) := h

theorem El_staff_Ratio_0 {A : Nat → Prop} {w : World} {b off : Nat} {x : staff_Ratio} (h : El A w b off x) : El A w b (off + 0) x.num := El.fst (El_staff_Ratio_ h)

theorem El_staff_Ratio_1 {A : Nat → Prop} {w : World} {b off : Nat} {x : staff_Ratio} (h : El A w b off x) : El A w b (off + 1) x.den := El.snd (El_staff_Ratio_ h)

theorem El_staff_Ratio {A : Nat → Prop} {w : World} {b off : Nat} {x : staff_Ratio} (h : El A w b off x) : At w b off [.string x.num, .string x.den] ∧ True := by
  obtain ⟨h1, h2, cs, h3, h4⟩ := h
  obtain ⟨_, _, rfl, rfl, rfl⟩ := h3
  exact ⟨h4, trivial⟩

instance : GoT staff_ratio := GoT.of (β := (List Int) × (List Int)) fun x => (x.num, x.den)

theorem El_staff_ratio_ {A : Nat → Prop} {w : World} {b off : Nat} {x : staff_ratio} (h : El A w b off x) : El (α := (List Int) × (List Int)) A w b off (x.num, x.den) := h

theorem El_staff_ratio_0 {A : Nat → Prop} {w : World} {b off : Nat} {x : staff_ratio} (h : El A w b off x) : El A w b (off + 0) x.num := El.fst (El_staff_ratio_ h)

theorem El_staff_ratio_1 {A : Nat → Prop} {w : World} {b off : Nat} {x : staff_ratio} (h : El A w b off x) : El A w b (off + 1) x.den := El.snd (El_staff_ratio_ h)

theorem El_staff_ratio {A : Nat → Prop} {w : World} {b off : Nat} {x : staff_ratio} (h : El A w b off x) : ∃ v1 v3, At w b off [v1, v3] ∧ Sl A w v1 x.num ∧ Sl A w v3 x.den := by
  obtain ⟨h1, h2, cs, h3, h4⟩ := h
  obtain ⟨_, _, rfl, ⟨u1, rfl, g1⟩, ⟨u2, rfl, g2⟩⟩ := h3
  exact ⟨u1, u2, h4, g1, g2⟩

set_option maxRecDepth 4000 in
set_option maxHeartbeats 4000000 in
theorem staff_RatioOf_c (w : World) {A : Nat → Prop} (hA : ∀ b, w.heap.size ≤ b → A b) (num : Int) (den : Int) {r : (staff_Ratio × Int)} (hm : staff_RatioOf num den = some r) : Ret Tryd.prog 9 #[.int .i64 num, .int .i64 den] w fun v w' => v = .tuple #[.agg #[.string r.1.num, .string r.1.den], .int .i64 r.2] ∧ Kp w w' := by
  unfold staff_RatioOf at hm
  refine enter Tryd.func9 rfl Tryd.ntmps9 rfl ?_
  have hA0 := hA
  have hB := Nat.le_refl w.heap.size
  have hK : Tr w.heap.size A w A w := Tr.refl hA
  have hH : Hp w.heap.size A w [] := Hp.nil
  refine C_seq ?_
  refine C_region ?_
  refine V_allocH (B := w.heap.size) hH Tryd.zeroValue39 hB hA rfl ?_
  intro b1 w2 A3 hH4 ht5
  replace hK := Tr.trans hK ht5
  replace hB := Nat.le_trans hB ht5.ex.size
  replace hA := ht5.new
  replace hH : Hp w.heap.size A3 w2 (obC b1 [.string ByteArray.empty, .string ByteArray.empty] 39 :: []) := hH4
  refine V_y (Y_assign rfl) rfl rfl rfl ?_
  refine V_to (fun _ _ => rfl) ?_
  refine C_seq ?_
  refine C_seq ?_
  refine C_region ?_
  refine V_y (Y_move rfl) rfl rfl rfl ?_
  refine V_y (Y_lss rfl rfl) rfl rfl rfl ?_
  refine V_y (Y_move rfl) rfl rfl rfl ?_
  refine V_cut 3 (fun _ : Unit => [(0, .int .i64 num), (1, .int .i64 den), (4, .pointer (some ⟨b1, 0, none⟩)), (11, .bool ((decide (num < 0)) || (decide (den < 1))))]) (fun _ w' => w2 = w') ?_ ?_
  · simp only [List.take, List.drop]
    rcases Bool.eq_false_or_eq_true (decide (num < 0)) with hc6 | hc6
    · refine V_gn rfl rfl rfl hc6 rfl rfl rfl ?_
      refine V_gn rfl rfl rfl hc6 rfl rfl rfl ?_
      refine V_y (Y_pick_te rfl hc6 rfl) rfl rfl rfl ?_
      exact V_end fun a ha => ⟨(), ha.sub ⟨rfl, rfl, rfl, (by rw [hc6]; rfl), trivial⟩, rfl⟩
    · refine V_ge rfl rfl rfl hc6 ?_
      refine V_y (Y_move rfl) rfl rfl rfl ?_
      refine V_ge rfl rfl rfl hc6 ?_
      refine V_y (Y_lss rfl rfl) rfl rfl rfl ?_
      refine V_y (Y_pick_fe rfl hc6 rfl) rfl rfl rfl ?_
      exact V_end fun a ha => ⟨(), ha.sub ⟨rfl, rfl, rfl, (by rw [hc6]; rfl), trivial⟩, rfl⟩
  simp only [List.take, List.drop]
  rintro _ _ rfl
  refine V_to (fun _ _ => rfl) ?_
  refine C_cond rfl (fun hc8 => ?_) (fun hc8 => ?_)
  · rw [if_pos hc8] at hm
    refine C_seq ?_
    refine C_region ?_
    refine V_y (Y_build Tryd.underlying39 Tryd.zeroValue39 (Tryd_places39 _ Tryd.underlying39) rfl (by with_unfolding_all rfl)) rfl rfl rfl ?_
    refine V_storeC (off := 0) (ds := [.string ByteArray.empty, .string ByteArray.empty]) hH (i := 0) rfl Tryd.sizeOf39 rfl (Nat.le_of_ble_eq_true rfl) (by simp [Value.cells, Value.oneCell']) rfl hB hA rfl rfl ?_
    intro w9 hH10 ht11
    replace hK := Tr.trans hK ht11
    replace hB := Nat.le_trans hB ht11.ex.size
    replace hA := ht11.new
    replace hH : Hp w.heap.size A3 w9 (obC b1 [.string ByteArray.empty, .string ByteArray.empty] 39 :: []) := hH10
    refine V_y (Y_assign rfl) rfl rfl rfl ?_
    refine V_to (fun _ _ => rfl) ?_
    obtain rfl := Option.some.inj hm
    refine C_ret ?_
    try simp only [↓inBlock_ret, ↓then_ret]
    exact retQ rfl (Res.l2 Tryd.results9 (RL.cell rfl (loadVar_agg (Hp.part (off := 0) (n := 2) (ds := [.string ByteArray.empty, .string ByteArray.empty]) hH (i := 0) rfl rfl) Tryd.isAgg39 Tryd.sizeOf39)) (RL.tmp rfl)) ⟨rfl, hK.kp⟩
  · rw [if_neg (nt hc8)] at hm
    refine C_skip_to (fun _ _ => rfl) ?_
    refine C_seq ?_
    cases hm

set_option maxRecDepth 4000 in
set_option maxHeartbeats 4000000 in
theorem porttop_awakeStaff_c (w : World) {A : Nat → Prop} (hA : ∀ b, w.heap.size ≤ b → A b)  {r : Bool} (hm : porttop_awakeStaff  = some r) : Ret Tryd.prog 4 #[] w fun v w' => v = .bool r ∧ Kp w w' := by
  unfold porttop_awakeStaff at hm
  refine enter Tryd.func4 rfl Tryd.ntmps4 rfl ?_
  have hA0 := hA
  have hB := Nat.le_refl w.heap.size
  have hK : Tr w.heap.size A w A w := Tr.refl hA
  have hH : Hp w.heap.size A w [] := Hp.nil
  refine C_seq ?_
  refine C_region ?_
  refine V_y (Y_assign rfl) rfl rfl rfl ?_
  refine V_to (fun _ _ => rfl) ?_
  refine C_seq ?_
  refine C_region ?_
  obtain ⟨x1, hx1, hm⟩ := Option.bind_eq_some_iff.1 hm
  refine V_call Tryd.call9 rfl rfl rfl rfl (staff_RatioOf_c w hA 1 0 hx1) ?_
  rintro _ w2 ⟨rfl, hk3⟩
  have ht4 := Kp.tr hk3 hA hB
  replace hH := Hp.kp hH hk3
  replace hK := Tr.trans hK ht4
  replace hB := Nat.le_trans hB ht4.ex.size
  replace hA := ht4.new
  refine V_y (Y_move rfl) rfl rfl rfl ?_
  refine V_y (Y_extract rfl rfl) rfl rfl rfl ?_
  refine V_y (Y_extract rfl rfl) rfl rfl rfl ?_
  refine V_alloc Tryd.zeroValue39 rfl ?_
  intro b5 w6 h7
  refine V_storeNew h7 Tryd.sizeOf39 rfl rfl rfl rfl (by exact (List.forall_mem_cons.2 ⟨rfl, (List.forall_mem_cons.2 ⟨rfl, (fun _ h => nomatch h)⟩)⟩)) ?_
  intro w9 h10
  have hk12 := h10.kp
  have h11 : El (α := staff_Ratio) A w9 b5 0 x1.1 := h10.el hA ⟨[.string x1.1.num], _, rfl, rfl, rfl⟩
  have ht13 := Kp.tr hk12 hA hB
  replace hH := Hp.kp hH hk12
  replace hK := Tr.trans hK ht13
  replace hB := Nat.le_trans hB ht13.ex.size
  replace hA := ht13.new
  refine V_y (Y_assign rfl) rfl rfl rfl ?_
  refine V_to (fun _ _ => rfl) ?_
  refine C_seq ?_
  refine C_region ?_
  refine V_y (Y_move rfl) rfl rfl rfl ?_
  refine V_y (Y_neq rfl rfl) rfl rfl rfl ?_
  refine V_y (Y_assign rfl) rfl rfl rfl ?_
  refine V_to (fun _ _ => rfl) ?_
  obtain rfl := Option.some.inj hm
  refine C_ret ?_
  try simp only [↓inBlock_ret, ↓then_ret]
  exact retQ rfl (Res.one Tryd.results4 rfl) ⟨rfl, hK.kp⟩

set_option maxRecDepth 4000 in
set_option maxHeartbeats 4000000 in
theorem staff_within_c (w : World) (n : Int) (low : Int) (high : Int) : Ret Tryd.prog 18 #[.int .i64 n, .int .i64 low, .int .i64 high] w fun v w' => v = .bool (staff_within n low high) ∧ w = w' := by
  generalize hm : staff_within n low high = r
  unfold staff_within at hm
  refine enter Tryd.func18 rfl Tryd.ntmps18 rfl ?_
  refine C_seq ?_
  refine C_region ?_
  refine V_y (Y_assign rfl) rfl rfl rfl ?_
  refine V_to (fun _ _ => rfl) ?_
  refine C_seq ?_
  refine C_region ?_
  refine V_y (Y_move rfl) rfl rfl rfl ?_
  refine V_y (Y_move rfl) rfl rfl rfl ?_
  refine V_y (Y_geq rfl rfl) rfl rfl rfl ?_
  refine V_y (Y_move rfl) rfl rfl rfl ?_
  refine V_cut 4 (fun _ : Unit => [(14, .bool ((decide (low ≤ n)) && (decide (n ≤ high))))]) (fun _ w' => w = w') ?_ ?_
  · simp only [List.take, List.drop]
    rcases Bool.eq_false_or_eq_true (decide (low ≤ n)) with hc1 | hc1
    · refine V_ge rfl rfl rfl hc1 ?_
      refine V_y (Y_move rfl) rfl rfl rfl ?_
      refine V_ge rfl rfl rfl hc1 ?_
      refine V_y (Y_move rfl) rfl rfl rfl ?_
      refine V_ge rfl rfl rfl hc1 ?_
      refine V_y (Y_leq rfl rfl) rfl rfl rfl ?_
      refine V_y (Y_pick_te rfl hc1 rfl) rfl rfl rfl ?_
      exact V_end fun a ha => ⟨(), ha.sub ⟨(by rw [hc1]; rfl), trivial⟩, rfl⟩
    · refine V_gn rfl rfl rfl hc1 rfl rfl rfl ?_
      refine V_gn rfl rfl rfl hc1 rfl rfl rfl ?_
      refine V_gn rfl rfl rfl hc1 rfl rfl rfl ?_
      refine V_y (Y_pick_fe rfl hc1 rfl) rfl rfl rfl ?_
      exact V_end fun a ha => ⟨(), ha.sub ⟨(by rw [hc1]; rfl), trivial⟩, rfl⟩
  simp only [List.take, List.drop]
  rintro _ _ rfl
  refine V_y (Y_assign rfl) rfl rfl rfl ?_
  refine V_to (fun _ _ => rfl) ?_
  obtain rfl := hm
  refine C_ret ?_
  try simp only [↓inBlock_ret, ↓then_ret]
  exact retQ rfl (Res.one Tryd.results18 rfl) ⟨rfl, rfl⟩

set_option maxRecDepth 4000 in
set_option maxHeartbeats 4000000 in
theorem staff_checkLoad_c (w : World) {A : Nat → Prop} (hA : ∀ b, w.heap.size ≤ b → A b) (l : staff_Load) {r : Int} (hm : staff_checkLoad l = some r) : Ret Tryd.prog 10 #[.agg #[.int .i64 l.calls, .int .i64 l.length, .int .i64 l.span]] w fun v w' => v = .int .i64 r ∧ Kp w w' := by
  unfold staff_checkLoad at hm
  refine enter Tryd.func10 rfl Tryd.ntmps10 rfl ?_
  have hA0 := hA
  have hB := Nat.le_refl w.heap.size
  have hK : Tr w.heap.size A w A w := Tr.refl hA
  have hH : Hp w.heap.size A w [] := Hp.nil
  refine C_seq ?_
  refine C_region ?_
  refine V_box rfl rfl ?_
  intro b1 w2 h3
  have hk5 := h3.kp
  have h4 : El (α := staff_Load) A w2 b1 0 l := h3.el hA ⟨[.int .i64 l.calls], _, rfl, rfl, ⟨[.int .i64 l.length], _, rfl, rfl, rfl⟩⟩
  have ht6 := Kp.tr hk5 hA hB
  replace hH := Hp.kp hH hk5
  replace hK := Tr.trans hK ht6
  replace hB := Nat.le_trans hB ht6.ex.size
  replace hA := ht6.new
  refine V_y (Y_assign rfl) rfl rfl rfl ?_
  refine V_to (fun _ _ => rfl) ?_
  refine C_seq ?_
  refine C_seq ?_
  refine C_region ?_
  have h7 := El_staff_Load_0 h4
  refine V_y (Y_fieldAddr Tryd.underlying34 rfl Tryd.sizeOf3 (by decide) rfl) rfl rfl rfl ?_
  refine V_y (Y_load (El.int h7) Tryd.isAgg3 rfl) rfl rfl rfl ?_
  refine V_call Tryd.call18 rfl rfl rfl rfl (staff_within_c w2 l.calls 0 100000) ?_
  rintro _ _ ⟨rfl, rfl⟩
  refine V_y (Y_not rfl) rfl rfl rfl ?_
  refine V_y (Y_move rfl) rfl rfl rfl ?_
  refine V_cut 5 (fun _ : Unit => [(1, .pointer (some ⟨b1, 0, none⟩)), (12, .bool ((!(staff_within l.calls 0 100000)) || (!(staff_within l.length 1 1440))))]) (fun _ w' => w2 = w') ?_ ?_
  · simp only [List.take, List.drop]
    rcases Bool.eq_false_or_eq_true (!(staff_within l.calls 0 100000)) with hc8 | hc8
    · refine V_gn rfl rfl rfl hc8 rfl rfl rfl ?_
      refine V_gn rfl rfl rfl hc8 rfl rfl rfl ?_
      refine V_gn rfl rfl rfl hc8 rfl rfl rfl ?_
      refine V_gn rfl rfl rfl hc8 rfl rfl rfl ?_
      refine V_y (Y_pick_te rfl hc8 rfl) rfl rfl rfl ?_
      exact V_end fun a ha => ⟨(), ha.sub ⟨rfl, (by rw [hc8]; rfl), trivial⟩, rfl⟩
    · refine V_ge rfl rfl rfl hc8 ?_
      have h10 := El_staff_Load_1 h4
      refine V_y (Y_fieldAddr Tryd.underlying34 rfl Tryd.sizeOf3 (by decide) rfl) rfl rfl rfl ?_
      refine V_ge rfl rfl rfl hc8 ?_
      refine V_y (Y_load (El.int h10) Tryd.isAgg3 rfl) rfl rfl rfl ?_
      refine V_ge rfl rfl rfl hc8 ?_
      refine V_call Tryd.call18 rfl rfl rfl rfl (staff_within_c w2 l.length 1 1440) ?_
      rintro _ _ ⟨rfl, rfl⟩
      refine V_ge rfl rfl rfl hc8 ?_
      refine V_y (Y_not rfl) rfl rfl rfl ?_
      refine V_y (Y_pick_fe rfl hc8 rfl) rfl rfl rfl ?_
      exact V_end fun a ha => ⟨(), ha.sub ⟨rfl, (by rw [hc8]; rfl), trivial⟩, rfl⟩
  simp only [List.take, List.drop]
  rintro _ _ rfl
  refine V_y (Y_move rfl) rfl rfl rfl ?_
  refine V_cut 5 (fun _ : Unit => [(18, .bool (((!(staff_within l.calls 0 100000)) || (!(staff_within l.length 1 1440))) || (!(staff_within l.span 1 10080))))]) (fun _ w' => w2 = w') ?_ ?_
  · simp only [List.take, List.drop]
    rcases Bool.eq_false_or_eq_true (((!(staff_within l.calls 0 100000)) || (!(staff_within l.length 1 1440)))) with hc11 | hc11
    · refine V_gn rfl rfl rfl hc11 rfl rfl rfl ?_
      refine V_gn rfl rfl rfl hc11 rfl rfl rfl ?_
      refine V_gn rfl rfl rfl hc11 rfl rfl rfl ?_
      refine V_gn rfl rfl rfl hc11 rfl rfl rfl ?_
      refine V_y (Y_pick_te rfl hc11 rfl) rfl rfl rfl ?_
      exact V_end fun a ha => ⟨(), ha.sub ⟨(by rw [hc11]; rfl), trivial⟩, rfl⟩
    · refine V_ge rfl rfl rfl hc11 ?_
      have h13 := El_staff_Load_2 h4
      refine V_y (Y_fieldAddr Tryd.underlying34 rfl Tryd.sizeOf3 (by decide) rfl) rfl rfl rfl ?_
      refine V_ge rfl rfl rfl hc11 ?_
      refine V_y (Y_load (El.int h13) Tryd.isAgg3 rfl) rfl rfl rfl ?_
      refine V_ge rfl rfl rfl hc11 ?_
      refine V_call Tryd.call18 rfl rfl rfl rfl (staff_within_c w2 l.span 1 10080) ?_
      rintro _ _ ⟨rfl, rfl⟩
      refine V_ge rfl rfl rfl hc11 ?_
      refine V_y (Y_not rfl) rfl rfl rfl ?_
      refine V_y (Y_pick_fe rfl hc11 rfl) rfl rfl rfl ?_
      exact V_end fun a ha => ⟨(), ha.sub ⟨(by rw [hc11]; rfl), trivial⟩, rfl⟩
  simp only [List.take, List.drop]
  rintro _ _ rfl
  refine V_to (fun _ _ => rfl) ?_
  refine C_cond rfl (fun hc14 => ?_) (fun hc14 => ?_)
  · rw [if_pos hc14] at hm
    refine C_seq ?_
    refine C_region ?_
    refine V_y (Y_assign rfl) rfl rfl rfl ?_
    refine V_to (fun _ _ => rfl) ?_
    obtain rfl := Option.some.inj hm
    refine C_ret ?_
    try simp only [↓inBlock_ret, ↓then_ret]
    exact retQ rfl (Res.one Tryd.results10 rfl) ⟨rfl, hK.kp⟩
  · rw [if_neg (nt hc14)] at hm
    refine C_skip_to (fun _ _ => rfl) ?_
    refine C_seq ?_
    refine C_region ?_
    refine V_y (Y_assign rfl) rfl rfl rfl ?_
    refine V_to (fun _ _ => rfl) ?_
    obtain rfl := Option.some.inj hm
    refine C_ret ?_
    try simp only [↓inBlock_ret, ↓then_ret]
    exact retQ rfl (Res.one Tryd.results10 rfl) ⟨rfl, hK.kp⟩

set_option maxRecDepth 4000 in
set_option maxHeartbeats 4000000 in
theorem staff_checkPromise_c (w : World) {A : Nat → Prop} (hA : ∀ b, w.heap.size ≤ b → A b) (p : staff_Promise) {r : Int} (hm : staff_checkPromise p = some r) : Ret Tryd.prog 11 #[.agg #[.int .i64 p.share, .int .i64 p.of, .int .i64 p.wait, .int .i64 p.parts]] w fun v w' => v = .int .i64 r ∧ Kp w w' := by
  unfold staff_checkPromise at hm
  refine enter Tryd.func11 rfl Tryd.ntmps11 rfl ?_
  have hA0 := hA
  have hB := Nat.le_refl w.heap.size
  have hK : Tr w.heap.size A w A w := Tr.refl hA
  have hH : Hp w.heap.size A w [] := Hp.nil
  refine C_seq ?_
  refine C_region ?_
  refine V_box rfl rfl ?_
  intro b1 w2 h3
  have hk5 := h3.kp
  have h4 : El (α := staff_Promise) A w2 b1 0 p := h3.el hA ⟨[.int .i64 p.share], _, rfl, rfl, ⟨[.int .i64 p.of], _, rfl, rfl, ⟨[.int .i64 p.wait], _, rfl, rfl, rfl⟩⟩⟩
  have ht6 := Kp.tr hk5 hA hB
  replace hH := Hp.kp hH hk5
  replace hK := Tr.trans hK ht6
  replace hB := Nat.le_trans hB ht6.ex.size
  replace hA := ht6.new
  refine V_y (Y_assign rfl) rfl rfl rfl ?_
  refine V_to (fun _ _ => rfl) ?_
  refine C_seq ?_
  refine C_seq ?_
  refine C_region ?_
  have h7 := El_staff_Promise_0 h4
  refine V_y (Y_fieldAddr Tryd.underlying24 rfl Tryd.sizeOf3 (by decide) rfl) rfl rfl rfl ?_
  refine V_y (Y_load (El.int h7) Tryd.isAgg3 rfl) rfl rfl rfl ?_
  refine V_y (Y_lss rfl rfl) rfl rfl rfl ?_
  refine V_y (Y_move rfl) rfl rfl rfl ?_
  refine V_cut 6 (fun _ : Unit => [(1, .pointer (some ⟨b1, 0, none⟩)), (12, .bool ((decide (p.share < 0)) || (decide (p.of < p.share))))]) (fun _ w' => w2 = w') ?_ ?_
  · simp only [List.take, List.drop]
    rcases Bool.eq_false_or_eq_true (decide (p.share < 0)) with hc8 | hc8
    · refine V_gn rfl rfl rfl hc8 rfl rfl rfl ?_
      refine V_gn rfl rfl rfl hc8 rfl rfl rfl ?_
      refine V_gn rfl rfl rfl hc8 rfl rfl rfl ?_
      refine V_gn rfl rfl rfl hc8 rfl rfl rfl ?_
      refine V_gn rfl rfl rfl hc8 rfl rfl rfl ?_
      refine V_y (Y_pick_te rfl hc8 rfl) rfl rfl rfl ?_
      exact V_end fun a ha => ⟨(), ha.sub ⟨rfl, (by rw [hc8]; rfl), trivial⟩, rfl⟩
    · refine V_ge rfl rfl rfl hc8 ?_
      have h10 := El_staff_Promise_0 h4
      refine V_y (Y_fieldAddr Tryd.underlying24 rfl Tryd.sizeOf3 (by decide) rfl) rfl rfl rfl ?_
      refine V_ge rfl rfl rfl hc8 ?_
      refine V_y (Y_load (El.int h10) Tryd.isAgg3 rfl) rfl rfl rfl ?_
      refine V_ge rfl rfl rfl hc8 ?_
      have h11 := El_staff_Promise_1 h4
      refine V_y (Y_fieldAddr Tryd.underlying24 rfl Tryd.sizeOf3 (by decide) rfl) rfl rfl rfl ?_
      refine V_ge rfl rfl rfl hc8 ?_
      refine V_y (Y_load (El.int h11) Tryd.isAgg3 rfl) rfl rfl rfl ?_
      refine V_ge rfl rfl rfl hc8 ?_
      refine V_y (Y_gtr rfl rfl) rfl rfl rfl ?_
      refine V_y (Y_pick_fe rfl hc8 rfl) rfl rfl rfl ?_
      exact V_end fun a ha => ⟨(), ha.sub ⟨rfl, (by rw [hc8]; rfl), trivial⟩, rfl⟩
  simp only [List.take, List.drop]
  rintro _ _ rfl
  refine V_y (Y_move rfl) rfl rfl rfl ?_
  refine V_cut 5 (fun _ : Unit => [(1, .pointer (some ⟨b1, 0, none⟩)), (18, .bool (((decide (p.share < 0)) || (decide (p.of < p.share))) || (!(staff_within p.of 1 1000000))))]) (fun _ w' => w2 = w') ?_ ?_
  · simp only [List.take, List.drop]
    rcases Bool.eq_false_or_eq_true (((decide (p.share < 0)) || (decide (p.of < p.share)))) with hc12 | hc12
    · refine V_gn rfl rfl rfl hc12 rfl rfl rfl ?_
      refine V_gn rfl rfl rfl hc12 rfl rfl rfl ?_
      refine V_gn rfl rfl rfl hc12 rfl rfl rfl ?_
      refine V_gn rfl rfl rfl hc12 rfl rfl rfl ?_
      refine V_y (Y_pick_te rfl hc12 rfl) rfl rfl rfl ?_
      exact V_end fun a ha => ⟨(), ha.sub ⟨rfl, (by rw [hc12]; rfl), trivial⟩, rfl⟩
    · refine V_ge rfl rfl rfl hc12 ?_
      have h14 := El_staff_Promise_1 h4
      refine V_y (Y_fieldAddr Tryd.underlying24 rfl Tryd.sizeOf3 (by decide) rfl) rfl rfl rfl ?_
      refine V_ge rfl rfl rfl hc12 ?_
      refine V_y (Y_load (El.int h14) Tryd.isAgg3 rfl) rfl rfl rfl ?_
      refine V_ge rfl rfl rfl hc12 ?_
      refine V_call Tryd.call18 rfl rfl rfl rfl (staff_within_c w2 p.of 1 1000000) ?_
      rintro _ _ ⟨rfl, rfl⟩
      refine V_ge rfl rfl rfl hc12 ?_
      refine V_y (Y_not rfl) rfl rfl rfl ?_
      refine V_y (Y_pick_fe rfl hc12 rfl) rfl rfl rfl ?_
      exact V_end fun a ha => ⟨(), ha.sub ⟨rfl, (by rw [hc12]; rfl), trivial⟩, rfl⟩
  simp only [List.take, List.drop]
  rintro _ _ rfl
  refine V_y (Y_move rfl) rfl rfl rfl ?_
  refine V_cut 5 (fun _ : Unit => [(1, .pointer (some ⟨b1, 0, none⟩)), (24, .bool ((((decide (p.share < 0)) || (decide (p.of < p.share))) || (!(staff_within p.of 1 1000000))) || (!(staff_within p.wait 0 1000000))))]) (fun _ w' => w2 = w') ?_ ?_
  · simp only [List.take, List.drop]
    rcases Bool.eq_false_or_eq_true ((((decide (p.share < 0)) || (decide (p.of < p.share))) || (!(staff_within p.of 1 1000000)))) with hc15 | hc15
    · refine V_gn rfl rfl rfl hc15 rfl rfl rfl ?_
      refine V_gn rfl rfl rfl hc15 rfl rfl rfl ?_
      refine V_gn rfl rfl rfl hc15 rfl rfl rfl ?_
      refine V_gn rfl rfl rfl hc15 rfl rfl rfl ?_
      refine V_y (Y_pick_te rfl hc15 rfl) rfl rfl rfl ?_
      exact V_end fun a ha => ⟨(), ha.sub ⟨rfl, (by rw [hc15]; rfl), trivial⟩, rfl⟩
    · refine V_ge rfl rfl rfl hc15 ?_
      have h17 := El_staff_Promise_2 h4
      refine V_y (Y_fieldAddr Tryd.underlying24 rfl Tryd.sizeOf3 (by decide) rfl) rfl rfl rfl ?_
      refine V_ge rfl rfl rfl hc15 ?_
      refine V_y (Y_load (El.int h17) Tryd.isAgg3 rfl) rfl rfl rfl ?_
      refine V_ge rfl rfl rfl hc15 ?_
      refine V_call Tryd.call18 rfl rfl rfl rfl (staff_within_c w2 p.wait 0 1000000) ?_
      rintro _ _ ⟨rfl, rfl⟩
      refine V_ge rfl rfl rfl hc15 ?_
      refine V_y (Y_not rfl) rfl rfl rfl ?_
      refine V_y (Y_pick_fe rfl hc15 rfl) rfl rfl rfl ?_
      exact V_end fun a ha => ⟨(), ha.sub ⟨rfl, (by rw [hc15]; rfl), trivial⟩, rfl⟩
  simp only [List.take, List.drop]
  rintro _ _ rfl
  refine V_y (Y_move rfl) rfl rfl rfl ?_
  refine V_cut 5 (fun _ : Unit => [(30, .bool (((((decide (p.share < 0)) || (decide (p.of < p.share))) || (!(staff_within p.of 1 1000000))) || (!(staff_within p.wait 0 1000000))) || (!(staff_within p.parts 1 1000000))))]) (fun _ w' => w2 = w') ?_ ?_
  · simp only [List.take, List.drop]
    rcases Bool.eq_false_or_eq_true (((((decide (p.share < 0)) || (decide (p.of < p.share))) || (!(staff_within p.of 1 1000000))) || (!(staff_within p.wait 0 1000000)))) with hc18 | hc18
    · refine V_gn rfl rfl rfl hc18 rfl rfl rfl ?_
      refine V_gn rfl rfl rfl hc18 rfl rfl rfl ?_
      refine V_gn rfl rfl rfl hc18 rfl rfl rfl ?_
      refine V_gn rfl rfl rfl hc18 rfl rfl rfl ?_
      refine V_y (Y_pick_te rfl hc18 rfl) rfl rfl rfl ?_
      exact V_end fun a ha => ⟨(), ha.sub ⟨(by rw [hc18]; rfl), trivial⟩, rfl⟩
    · refine V_ge rfl rfl rfl hc18 ?_
      have h20 := El_staff_Promise_3 h4
      refine V_y (Y_fieldAddr Tryd.underlying24 rfl Tryd.sizeOf3 (by decide) rfl) rfl rfl rfl ?_
      refine V_ge rfl rfl rfl hc18 ?_
      refine V_y (Y_load (El.int h20) Tryd.isAgg3 rfl) rfl rfl rfl ?_
      refine V_ge rfl rfl rfl hc18 ?_
      refine V_call Tryd.call18 rfl rfl rfl rfl (staff_within_c w2 p.parts 1 1000000) ?_
      rintro _ _ ⟨rfl, rfl⟩
      refine V_ge rfl rfl rfl hc18 ?_
      refine V_y (Y_not rfl) rfl rfl rfl ?_
      refine V_y (Y_pick_fe rfl hc18 rfl) rfl rfl rfl ?_
      exact V_end fun a ha => ⟨(), ha.sub ⟨(by rw [hc18]; rfl), trivial⟩, rfl⟩
  simp only [List.take, List.drop]
  rintro _ _ rfl
  refine V_to (fun _ _ => rfl) ?_
  refine C_cond rfl (fun hc21 => ?_) (fun hc21 => ?_)
  · rw [if_pos hc21] at hm
    refine C_seq ?_
    refine C_region ?_
    refine V_y (Y_assign rfl) rfl rfl rfl ?_
    refine V_to (fun _ _ => rfl) ?_
    obtain rfl := Option.some.inj hm
    refine C_ret ?_
    try simp only [↓inBlock_ret, ↓then_ret]
    exact retQ rfl (Res.one Tryd.results11 rfl) ⟨rfl, hK.kp⟩
  · rw [if_neg (nt hc21)] at hm
    refine C_skip_to (fun _ _ => rfl) ?_
    refine C_seq ?_
    refine C_region ?_
    refine V_y (Y_assign rfl) rfl rfl rfl ?_
    refine V_to (fun _ _ => rfl) ?_
    obtain rfl := Option.some.inj hm
    refine C_ret ?_
    try simp only [↓inBlock_ret, ↓then_ret]
    exact retQ rfl (Res.one Tryd.results11 rfl) ⟨rfl, hK.kp⟩

set_option maxRecDepth 4000 in
set_option maxHeartbeats 4000000 in
theorem cmp_Or_api_Errno_c (w : World) {A : Nat → Prop} (vals : (List Int)) (v_vals : Value) (h_vals : Sl A w v_vals vals) {r : Int} (hm : cmp_Or_api_Errno vals = some r) : Ret Tryd.prog 13 #[v_vals] w fun v w' => v = .int .i64 r ∧ w = w' := by
  unfold cmp_Or_api_Errno at hm
  refine enter Tryd.func13 rfl Tryd.ntmps13 rfl ?_
  refine C_seq ?_
  refine C_region ?_
  refine V_y (Y_assign rfl) rfl rfl rfl ?_
  refine V_to (fun _ _ => rfl) ?_
  refine C_seq ?_
  refine C_region ?_
  refine V_y (Y_assign rfl) rfl rfl rfl ?_
  refine V_to (fun _ _ => rfl) ?_
  refine C_seq ?_
  refine C_seq ?_
  refine C_region ?_
  refine V_y (Y_move rfl) rfl rfl rfl ?_
  refine V_y (Y_lenSl h_vals rfl Tryd.underlying63 rfl) rfl rfl rfl ?_
  refine V_y (Y_move rfl) rfl rfl rfl ?_
  refine V_to (fun _ _ => rfl) ?_
  have hn19 := Sl.le h_vals
  obtain ⟨o3, ho3, hm⟩ := Option.bind_eq_some_iff.1 hm
  refine C_cutG (ι := Unit) (fun (s4 : Unit) => [(3, .int .i64 0)]) (fun (s4 : Unit) => fun w' => o3 = .fin s4 ∧ w = w') ?_ ?_
  · refine C_block ?_
    refine C_range ho3 (fun k6 _ a w' => ∃ i : Unit, Has ⟨18, [], none⟩ a ([(3, .int .i64 0), (6, v_vals), (7, .int .i64 (vals.length : Int)), (8, .int .i64 (k6 : Int))]) ∧ w = w') (fun a ha => ⟨(), ha.sub ⟨rfl, rfl, rfl, rfl, trivial⟩, rfl⟩) ?_
    rintro K k6 _ a _ ⟨_, ha28, rfl⟩ hle15 K18 h17
    refine C_of ?_ ha28
    refine C_seq (C_region (V_y (Y_lss rfl rfl) rfl rfl rfl (V_to (fun _ _ => rfl) ?_)))
    refine C_seq ?_
    refine C_cond rfl (fun hc20 => ?_) (fun hc20 => ?_)
    · have hlt16 := lt_of_dec hc20
      obtain ⟨x12, h13, h14⟩ := K18 hlt16
      refine C_skip_to (fun _ _ => rfl) ?_
      refine C_seq ?_
      refine C_block ?_
      refine C_seq ?_
      refine C_region ?_
      obtain ⟨x21, hx21, h13⟩ := Option.bind_eq_some_iff.1 h13
      refine V_indexAddr h_vals hx21 Tryd.underlying63 Tryd.sizeOf28 rfl rfl rfl ?_
      intro b22 o23 h24
      refine V_y (Y_load (El.int h24) Tryd.isAgg28 rfl) rfl rfl rfl ?_
      refine V_y (Y_assign rfl) rfl rfl rfl ?_
      refine V_to (fun _ _ => rfl) ?_
      refine C_seq ?_
      refine C_region ?_
      refine V_y (Y_move rfl) rfl rfl rfl ?_
      refine V_y (Y_move rfl) rfl rfl rfl ?_
      refine V_y (Y_neq rfl rfl) rfl rfl rfl ?_
      refine V_to (fun _ _ => rfl) ?_
      refine C_cond rfl (fun hc25 => ?_) (fun hc25 => ?_)
      · rw [if_pos hc25] at h13
        refine C_seq ?_
        refine C_region ?_
        refine V_y (Y_move rfl) rfl rfl rfl ?_
        refine V_y (Y_assign rfl) rfl rfl rfl ?_
        refine V_to (fun _ _ => rfl) ?_
        obtain rfl := Option.some.inj h13
        obtain rfl := (h14 : Lp.rt _ = _)
        rw [Lp.andThen_rt] at hm
        obtain rfl := Option.some.inj hm
        refine C_ret ?_
        try simp only [↓inBlock_ret, ↓then_ret]
        exact retQ rfl (Res.one Tryd.results13 rfl) ⟨rfl, rfl⟩
      · rw [if_neg (nt hc25)] at h13
        refine C_skip_to (fun _ _ => rfl) ?_
        refine C_region ?_
        refine V_y (Y_addI rfl rfl) rfl rfl rfl ?_
        refine V_y (Y_move rfl) rfl rfl rfl ?_
        obtain rfl := Option.some.inj h13
        refine V_end (fun a ha26 => ?_)
        exact ⟨(), hlt16, h14, ⟨(), ha26.sub ⟨rfl, rfl, rfl, (congrArg (fun z => some (Value.int .i64 z)) (w64_succ hlt16 hn19)), trivial⟩, rfl⟩⟩
    · refine C_exit (fun a ha27 => ?_)
      exact ⟨(), ha27.sub ⟨rfl, trivial⟩, ⟨(h17 (eq_of_dec hle15 hc20)).symm, rfl⟩⟩
  rintro s4 _ ⟨rfl, rfl⟩ a ha9
  rw [Lp.andThen_fin] at hm
  refine C_at (n := ⟨18, [], none⟩) (fun _ _ => rfl) ?_ ha9
  refine C_seq ?_
  refine C_region ?_
  refine V_y (Y_move rfl) rfl rfl rfl ?_
  refine V_y (Y_assign rfl) rfl rfl rfl ?_
  refine V_to (fun _ _ => rfl) ?_
  obtain rfl := Option.some.inj hm
  refine C_ret ?_
  try simp only [↓inBlock_ret, ↓then_ret]
  exact retQ rfl (Res.one Tryd.results13 rfl) ⟨rfl, rfl⟩

set_option maxRecDepth 4000 in
set_option maxHeartbeats 4000000 in
theorem staff_Load_offered_c (w : World) {A : Nat → Prop} (hA : ∀ b, w.heap.size ≤ b → A b) (l : staff_Load) {r : (Int × Int)} (hm : staff_Load_offered l = some r) : Ret Tryd.prog 36 #[.agg #[.int .i64 l.calls, .int .i64 l.length, .int .i64 l.span]] w fun v w' => v = .tuple #[.int .i64 r.1, .int .i64 r.2] ∧ Kp w w' := by
  unfold staff_Load_offered at hm
  refine enter Tryd.func36 rfl Tryd.ntmps36 rfl ?_
  have hA0 := hA
  have hB := Nat.le_refl w.heap.size
  have hK : Tr w.heap.size A w A w := Tr.refl hA
  have hH : Hp w.heap.size A w [] := Hp.nil
  refine C_seq ?_
  refine C_region ?_
  refine V_box rfl rfl ?_
  intro b1 w2 h3
  have hk5 := h3.kp
  have h4 : El (α := staff_Load) A w2 b1 0 l := h3.el hA ⟨[.int .i64 l.calls], _, rfl, rfl, ⟨[.int .i64 l.length], _, rfl, rfl, rfl⟩⟩
  have ht6 := Kp.tr hk5 hA hB
  replace hH := Hp.kp hH hk5
  replace hK := Tr.trans hK ht6
  replace hB := Nat.le_trans hB ht6.ex.size
  replace hA := ht6.new
  refine V_y (Y_assign rfl) rfl rfl rfl ?_
  refine V_y (Y_assign rfl) rfl rfl rfl ?_
  refine V_to (fun _ _ => rfl) ?_
  refine C_seq ?_
  refine C_region_q Tryd_mixed (by kernel_rfl) ?_
  have h7 := El_staff_Load_0 h4
  refine VQ_y (fun w' hw' => Y_fieldAddr Tryd.underlying34 rfl Tryd.sizeOf3 (by decide) rfl) rfl rfl rfl ?_
  refine VQ_y (fun w' hw' => Y_load (El.int (El.kp h7 hw')) Tryd.isAgg3 rfl) rfl rfl rfl ?_
  have h8 := El_staff_Load_1 h4
  refine VQ_y (fun w' hw' => Y_fieldAddr Tryd.underlying34 rfl Tryd.sizeOf3 (by decide) rfl) rfl rfl rfl ?_
  refine VQ_y (fun w' hw' => Y_load (El.int (El.kp h8 hw')) Tryd.isAgg3 rfl) rfl rfl rfl ?_
  refine VQ_y (fun w' hw' => Y_mulI rfl rfl) rfl rfl rfl ?_
  have h9 := El_staff_Load_2 h4
  refine VQ_y (fun w' hw' => Y_fieldAddr Tryd.underlying34 rfl Tryd.sizeOf3 (by decide) rfl) rfl rfl rfl ?_
  refine VQ_y (fun w' hw' => Y_load (El.int (El.kp h9 hw')) Tryd.isAgg3 rfl) rfl rfl rfl ?_
  refine VQ_y (fun w' hw' => Y_assign rfl) rfl rfl rfl ?_
  refine VQ_y (fun w' hw' => Y_assign rfl) rfl rfl rfl ?_
  refine VQ_to (fun _ _ => rfl) (fun w10 hk11 => ?_)
  have ht12 := Kp.tr hk11 hA hB
  replace hH := Hp.kp hH hk11
  replace hK := Tr.trans hK ht12
  replace hB := Nat.le_trans hB ht12.ex.size
  replace hA := ht12.new
  obtain rfl := Option.some.inj hm
  refine C_ret ?_
  try simp only [↓inBlock_ret, ↓then_ret]
  exact retQ rfl (Res.two Tryd.results36 rfl rfl) ⟨rfl, hK.kp⟩

set_option maxRecDepth 4000 in
set_option maxHeartbeats 4000000 in
theorem staff_Load_enough_c (w : World) {A : Nat → Prop} (hA : ∀ b, w.heap.size ≤ b → A b) (l : staff_Load) (n : Int) {r : Bool} (hm : staff_Load_enough l n = some r) : Ret Tryd.prog 35 #[.agg #[.int .i64 l.calls, .int .i64 l.length, .int .i64 l.span], .int .i64 n] w fun v w' => v = .bool r ∧ Kp w w' := by
  unfold staff_Load_enough at hm
  refine enter Tryd.func35 rfl Tryd.ntmps35 rfl ?_
  have hA0 := hA
  have hB := Nat.le_refl w.heap.size
  have hK : Tr w.heap.size A w A w := Tr.refl hA
  have hH : Hp w.heap.size A w [] := Hp.nil
  refine C_seq ?_
  refine C_region ?_
  refine V_box rfl rfl ?_
  intro b1 w2 h3
  have hk5 := h3.kp
  have h4 : El (α := staff_Load) A w2 b1 0 l := h3.el hA ⟨[.int .i64 l.calls], _, rfl, rfl, ⟨[.int .i64 l.length], _, rfl, rfl, rfl⟩⟩
  have ht6 := Kp.tr hk5 hA hB
  replace hH := Hp.kp hH hk5
  replace hK := Tr.trans hK ht6
  replace hB := Nat.le_trans hB ht6.ex.size
  replace hA := ht6.new
  refine V_y (Y_assign rfl) rfl rfl rfl ?_
  refine V_to (fun _ _ => rfl) ?_
  refine C_seq ?_
  refine C_region ?_
  obtain ⟨h7, _⟩ := El_staff_Load h4
  refine V_y (Y_loadA h7 Tryd.isAgg34 Tryd.sizeOf34 rfl) rfl rfl rfl ?_
  obtain ⟨x8, hx8, hm⟩ := Option.bind_eq_some_iff.1 hm
  refine V_call Tryd.call36 rfl rfl rfl rfl (staff_Load_offered_c w2 hA l hx8) ?_
  rintro _ w9 ⟨rfl, hk10⟩
  have ht11 := Kp.tr hk10 hA hB
  replace hH := Hp.kp hH hk10
  replace h4 := El.tr h4 ht11
  replace hK := Tr.trans hK ht11
  replace hB := Nat.le_trans hB ht11.ex.size
  replace hA := ht11.new
  refine V_y (Y_move rfl) rfl rfl rfl ?_
  refine V_y (Y_extract rfl rfl) rfl rfl rfl ?_
  refine V_y (Y_extract rfl rfl) rfl rfl rfl ?_
  refine V_y (Y_assign rfl) rfl rfl rfl ?_
  refine V_y (Y_assign rfl) rfl rfl rfl ?_
  refine V_to (fun _ _ => rfl) ?_
  refine C_seq ?_
  refine C_region ?_
  refine V_y (Y_move rfl) rfl rfl rfl ?_
  refine V_y (Y_move rfl) rfl rfl rfl ?_
  refine V_y (Y_mulI rfl rfl) rfl rfl rfl ?_
  refine V_y (Y_move rfl) rfl rfl rfl ?_
  refine V_y (Y_gtr rfl rfl) rfl rfl rfl ?_
  refine V_y (Y_assign rfl) rfl rfl rfl ?_
  refine V_to (fun _ _ => rfl) ?_
  obtain rfl := Option.some.inj hm
  refine C_ret ?_
  try simp only [↓inBlock_ret, ↓then_ret]
  exact retQ rfl (Res.one Tryd.results35 rfl) ⟨rfl, hK.kp⟩

set_option maxRecDepth 4000 in
set_option maxHeartbeats 4000000 in
theorem staff_nat_trimmed_c (w : World) {A : Nat → Prop} (a_ : (List Int)) (v_a_ : Value) (h_a_ : Sl A w v_a_ a_) {r : (List Int)} (hm : staff_nat_trimmed a_ = some r) : Ret Tryd.prog 45 #[v_a_] w fun v w' => ∃ s0, v = s0 ∧ Sl A w' s0 r ∧ w = w' := by
  unfold staff_nat_trimmed at hm
  refine enter Tryd.func45 rfl Tryd.ntmps45 rfl ?_
  refine C_seq ?_
  refine C_region ?_
  refine V_y (Y_assign rfl) rfl rfl rfl ?_
  refine V_to (fun _ _ => rfl) ?_
  refine C_seq ?_
  obtain ⟨o3, ho3, hm⟩ := Option.bind_eq_some_iff.1 hm
  refine C_cutG (ι := ((List Int) × Value)) (fun ⟨s4, v10⟩ => [(0, v10)]) (fun ⟨s4, v10⟩ => fun w' => o3 = .fin s4 ∧ Sl A w' v10 s4 ∧ w = w') ?_ ?_
  · refine C_block ?_
    refine C_while ho3 (fun s12 a w' => ∃ i : Value, Has ⟨21, [], none⟩ a ([(0, i)]) ∧ Sl A w' i s12 ∧ w = w') (fun a ha => ⟨v_a_, ha.sub ⟨rfl, trivial⟩, ⟨h_a_, rfl⟩⟩) ?_
    rintro K s12 a _ ⟨v14, ha35, h15, rfl⟩ K22
    refine C_of ?_ ha35
    obtain ⟨x16, h17, h18⟩ := K22
    refine C_seq ?_
    refine C_seq ?_
    refine C_region ?_
    refine V_y (Y_move rfl) rfl rfl rfl ?_
    refine V_y (Y_lenSl h15 rfl Tryd.underlying57 rfl) rfl rfl rfl ?_
    refine V_y (Y_gtr rfl rfl) rfl rfl rfl ?_
    refine V_y (Y_move rfl) rfl rfl rfl ?_
    obtain ⟨s24, hs24, h17⟩ := Option.bind_eq_some_iff.1 h17
    refine V_cut 8 (fun _ : Unit => [(0, v14), (14, .bool s24)]) (fun _ w' => w = w') ?_ ?_
    · simp only [List.take, List.drop]
      rcases Bool.eq_false_or_eq_true (decide ((0 : Int) < (s12.length : Int))) with hc23 | hc23
      · rw [if_pos hc23] at hs24
        refine V_ge rfl rfl rfl hc23 ?_
        refine V_y (Y_move rfl) rfl rfl rfl ?_
        refine V_ge rfl rfl rfl hc23 ?_
        refine V_y (Y_move rfl) rfl rfl rfl ?_
        refine V_ge rfl rfl rfl hc23 ?_
        refine V_y (Y_lenSl h15 rfl Tryd.underlying57 rfl) rfl rfl rfl ?_
        refine V_ge rfl rfl rfl hc23 ?_
        refine V_y (Y_subI rfl rfl) rfl rfl rfl ?_
        refine V_ge rfl rfl rfl hc23 ?_
        obtain ⟨x25, hx25, hs24⟩ := Option.bind_eq_some_iff.1 hs24
        refine V_indexAddr h15 hx25 Tryd.underlying57 Tryd.sizeOf3 rfl rfl rfl ?_
        intro b26 o27 h28
        refine V_ge rfl rfl rfl hc23 ?_
        refine V_y (Y_load (El.int h28) Tryd.isAgg3 rfl) rfl rfl rfl ?_
        refine V_ge rfl rfl rfl hc23 ?_
        refine V_y (Y_eql rfl rfl) rfl rfl rfl ?_
        refine V_y (Y_pick_te rfl hc23 rfl) rfl rfl rfl ?_
        obtain rfl := Option.some.inj hs24
        exact V_end fun a ha => ⟨(), ha.sub ⟨rfl, rfl, trivial⟩, rfl⟩
      · rw [if_neg (nt hc23)] at hs24
        refine V_gn rfl rfl rfl hc23 rfl rfl rfl ?_
        refine V_gn rfl rfl rfl hc23 rfl rfl rfl ?_
        refine V_gn rfl rfl rfl hc23 rfl rfl rfl ?_
        refine V_gn rfl rfl rfl hc23 rfl rfl rfl ?_
        refine V_gn rfl rfl rfl hc23 rfl rfl rfl ?_
        refine V_gn rfl rfl rfl hc23 rfl rfl rfl ?_
        refine V_gn rfl rfl rfl hc23 rfl rfl rfl ?_
        refine V_y (Y_pick_fe rfl hc23 rfl) rfl rfl rfl ?_
        obtain rfl := Option.some.inj hs24
        exact V_end fun a ha => ⟨(), ha.sub ⟨rfl, rfl, trivial⟩, rfl⟩
    simp only [List.take, List.drop]
    rintro _ _ rfl
    refine V_to (fun _ _ => rfl) ?_
    refine C_cond rfl (fun hc29 => ?_) (fun hc29 => ?_)
    · rw [if_pos hc29] at h17
      refine C_skip_to (fun _ _ => rfl) ?_
      refine C_block ?_
      refine C_region ?_
      refine V_y (Y_move rfl) rfl rfl rfl ?_
      refine V_y (Y_move rfl) rfl rfl rfl ?_
      refine V_y (Y_lenSl h15 rfl Tryd.underlying57 rfl) rfl rfl rfl ?_
      refine V_y (Y_subI rfl rfl) rfl rfl rfl ?_
      obtain ⟨x30, hx30, h17⟩ := Option.bind_eq_some_iff.1 h17
      obtain ⟨v31, h32, h32y⟩ := sliceL_val hx30 h15
      refine V_y (Y_sliceLH h32y Tryd.underlying57 Tryd.sizeOf3 rfl rfl) rfl rfl rfl ?_
      refine V_y (Y_assign rfl) rfl rfl rfl ?_
      obtain rfl := Option.some.inj h17
      refine V_end (fun a ha33 => ?_)
      exact ⟨x30, h18, ⟨v31, ha33.sub ⟨rfl, trivial⟩, ⟨h32, rfl⟩⟩⟩
    · rw [if_neg (nt hc29)] at h17
      obtain rfl := Option.some.inj h17
      refine C_exit (fun a ha34 => ?_)
      exact ⟨(s12, v14), ha34.sub ⟨rfl, trivial⟩, ⟨h18.symm, h15, rfl⟩⟩
  rintro ⟨s4, v10⟩ _ ⟨rfl, h11, rfl⟩ a ha9
  rw [Lp.andThen_fin] at hm
  refine C_at (n := ⟨21, [], none⟩) (fun _ _ => rfl) ?_ ha9
  refine C_seq ?_
  refine C_region ?_
  refine V_y (Y_move rfl) rfl rfl rfl ?_
  refine V_y (Y_assign rfl) rfl rfl rfl ?_
  refine V_to (fun _ _ => rfl) ?_
  obtain rfl := Option.some.inj hm
  refine C_ret ?_
  try simp only [↓inBlock_ret, ↓then_ret]
  exact retQ rfl (Res.one Tryd.results45 rfl) ⟨v10, rfl, h11, rfl⟩

set_option maxRecDepth 4000 in
set_option maxHeartbeats 4000000 in
theorem staff_nat_small_c (w : World) {A : Nat → Prop} (hA : ∀ b, w.heap.size ≤ b → A b) (a_ : (List Int)) (v_a_ : Value) (h_a_ : Sl A w v_a_ a_) (n : Int) {r : (List Int)} (hm : staff_nat_small a_ n = some r) : Ret Tryd.prog 37 #[v_a_, .int .i64 n] w fun v w' => ∃ s0, v = s0 ∧ Sl A w' s0 r ∧ Kp w w' := by
  unfold staff_nat_small at hm
  refine enter Tryd.func37 rfl Tryd.ntmps37 rfl ?_
  have hA0 := hA
  have hB := Nat.le_refl w.heap.size
  have hK : Tr w.heap.size A w A w := Tr.refl hA
  have hH : Hp w.heap.size A w [] := Hp.nil
  refine C_seq ?_
  refine C_region ?_
  refine V_y (Y_assign rfl) rfl rfl rfl ?_
  refine V_to (fun _ _ => rfl) ?_
  refine C_seq ?_
  refine C_region ?_
  refine V_y (Y_move rfl) rfl rfl rfl ?_
  refine V_y (Y_lenSl h_a_ rfl Tryd.underlying57 rfl) rfl rfl rfl ?_
  refine V_y (Y_addI rfl rfl) rfl rfl rfl ?_
  obtain ⟨x3, hx3, hm⟩ := Option.bind_eq_some_iff.1 hm
  refine V_makeH (e := 3) (ti := Tryd.t3) hH hx3 (fun _ _ => rfl) Tryd.underlying57 Tryd_info3 rfl rfl rfl (by decide) (by decide) hB hA rfl rfl rfl ?_
  intro v4 w5 A6 hH7 ht8
  replace h_a_ := Sl.tr h_a_ ht8
  replace hK := Tr.trans hK ht8
  replace hB := Nat.le_trans hB ht8.ex.size
  replace hA := ht8.new
  replace hH : Hp w.heap.size A6 w5 (obS (α := Int) 3 v4 x3 :: []) := hH7
  refine V_y (Y_assign rfl) rfl rfl rfl ?_
  refine V_to (fun _ _ => rfl) ?_
  refine C_seq ?_
  refine C_region ?_
  refine V_y (Y_assign rfl) rfl rfl rfl ?_
  refine V_to (fun _ _ => rfl) ?_
  refine C_seq ?_
  refine C_seq ?_
  refine C_region ?_
  refine V_y (Y_move rfl) rfl rfl rfl ?_
  refine V_y (Y_lenSl h_a_ rfl Tryd.underlying57 rfl) rfl rfl rfl ?_
  refine V_y (Y_move rfl) rfl rfl rfl ?_
  refine V_to (fun _ _ => rfl) ?_
  have hn33 := Sl.le h_a_
  obtain ⟨o9, ho9, hm⟩ := Option.bind_eq_some_iff.1 hm
  refine C_cutG (ι := (((List Int) × Int) × Value × (Nat → Prop))) (fun ⟨s10, v16, A18⟩ => [(0, v_a_), (5, v16), (6, .int .i64 s10.2)]) (fun ⟨s10, v16, A18⟩ => fun w' => o9 = .fin s10 ∧ Hp w.heap.size A18 w' (obS (α := Int) 3 v16 s10.1 :: []) ∧ Tr w.heap.size A6 w5 A18 w') ?_ ?_
  · refine C_block ?_
    refine C_range ho9 (fun k12 s20 a w' => ∃ i : (Value × (Nat → Prop)), Has ⟨41, [], none⟩ a ([(0, v_a_), (1, .int .i64 n), (5, i.1), (6, .int .i64 s20.2), (14, v_a_), (15, .int .i64 (a_.length : Int)), (16, .int .i64 (k12 : Int))]) ∧ Hp w.heap.size i.2 w' (obS (α := Int) 3 i.1 s20.1 :: []) ∧ Tr w.heap.size A6 w5 i.2 w') (fun a ha => ⟨(v4, A6), ha.sub ⟨rfl, rfl, rfl, rfl, rfl, rfl, rfl, trivial⟩, ⟨hH, Tr.refl hA⟩⟩) ?_
    rintro K k12 s20 a w21 ⟨⟨v22, A24⟩, ha50, hH25, hr11⟩ hle29 K32 h31
    refine C_of ?_ ha50
    replace h_a_ := Sl.tr h_a_ hr11
    replace hK := Tr.trans hK hr11
    replace hB := Nat.le_trans hB hr11.ex.size
    replace hA := hr11.new
    replace hH : Hp w.heap.size A24 w21 (obS (α := Int) 3 v22 s20.1 :: []) := hH25
    refine C_seq (C_region (V_y (Y_lss rfl rfl) rfl rfl rfl (V_to (fun _ _ => rfl) ?_)))
    refine C_seq ?_
    refine C_cond rfl (fun hc34 => ?_) (fun hc34 => ?_)
    · have hlt30 := lt_of_dec hc34
      obtain ⟨x26, h27, h28⟩ := K32 hlt30
      refine C_skip_to (fun _ _ => rfl) ?_
      refine C_seq ?_
      refine C_block ?_
      refine C_seq ?_
      refine C_region ?_
      refine V_y (Y_move rfl) rfl rfl rfl ?_
      obtain ⟨x35, hx35, h27⟩ := Option.bind_eq_some_iff.1 h27
      refine V_indexAddr h_a_ hx35 Tryd.underlying57 Tryd.sizeOf3 rfl rfl rfl ?_
      intro b36 o37 h38
      refine V_y (Y_load (El.int h38) Tryd.isAgg3 rfl) rfl rfl rfl ?_
      refine V_y (Y_assign rfl) rfl rfl rfl ?_
      refine V_y (Y_assign rfl) rfl rfl rfl ?_
      refine V_to (fun _ _ => rfl) ?_
      refine C_seq ?_
      refine C_region ?_
      refine V_y (Y_move rfl) rfl rfl rfl ?_
      refine V_y (Y_move rfl) rfl rfl rfl ?_
      refine V_y (Y_mulI rfl rfl) rfl rfl rfl ?_
      refine V_y (Y_move rfl) rfl rfl rfl ?_
      refine V_y (Y_addI rfl rfl) rfl rfl rfl ?_
      refine V_y (Y_assign rfl) rfl rfl rfl ?_
      refine V_to (fun _ _ => rfl) ?_
      refine C_region ?_
      refine V_y (Y_move rfl) rfl rfl rfl ?_
      refine V_y (Y_move rfl) rfl rfl rfl ?_
      refine V_y (Y_move rfl) rfl rfl rfl ?_
      refine V_y (Y_rem (by rw [rem, if_neg (by decide)]) rfl rfl) rfl rfl rfl ?_
      refine V_y (Y_move rfl) rfl rfl rfl ?_
      refine V_y (Y_quo (by rw [quo, if_neg (by decide)]) rfl rfl) rfl rfl rfl ?_
      obtain ⟨x39, hx39, h27⟩ := Option.bind_eq_some_iff.1 h27
      refine V_indexAddrH (α := Int) (e := 3) (v := v22) (l := s20.1) hH (i := 0) rfl hx39 Tryd.underlying57 Tryd.sizeOf3 rfl rfl rfl ?_
      intro b40 o41 h42 hl43
      obtain ⟨x44, hx44, h27⟩ := Option.bind_eq_some_iff.1 h27
      refine V_storeH (α := Int) (e := 3) (v := v22) (l := s20.1) hH (i := 0) rfl hl43 hx44 rfl Tryd.sizeOf3 rfl hB hA rfl rfl ?_
      intro w45 hH46 ht47
      replace h_a_ := Sl.tr h_a_ ht47
      replace hK := Tr.trans hK ht47
      replace hr11 := Tr.trans hr11 ht47
      replace hB := Nat.le_trans hB ht47.ex.size
      replace hA := ht47.new
      replace hH : Hp w.heap.size A24 w45 (obS (α := Int) 3 v22 x44 :: []) := hH46
      refine V_y (Y_assign rfl) rfl rfl rfl ?_
      refine V_to (fun _ _ => rfl) ?_
      refine C_region ?_
      refine V_y (Y_addI rfl rfl) rfl rfl rfl ?_
      refine V_y (Y_move rfl) rfl rfl rfl ?_
      obtain rfl := Option.some.inj h27
      refine V_end (fun a ha48 => ?_)
      exact ⟨(x44, w64 (Int.tdiv (w64 ((w64 (x35 * n)) + s20.2)) 1000000000)), hlt30, h28, ⟨(v22, A24), ha48.sub ⟨rfl, rfl, rfl, rfl, rfl, rfl, (congrArg (fun z => some (Value.int .i64 z)) (w64_succ hlt30 hn33)), trivial⟩, ⟨hH, hr11⟩⟩⟩
    · refine C_exit (fun a ha49 => ?_)
      exact ⟨((s20.1, s20.2), v22, A24), ha49.sub ⟨rfl, rfl, rfl, trivial⟩, ⟨(h31 (eq_of_dec hle29 hc34)).symm, hH, hr11⟩⟩
  rintro ⟨s10, v16, A18⟩ w13 ⟨rfl, hH19, hk14⟩ a ha15
  rw [Lp.andThen_fin] at hm
  replace h_a_ := Sl.tr h_a_ hk14
  replace hK := Tr.trans hK hk14
  replace hB := Nat.le_trans hB hk14.ex.size
  replace hA := hk14.new
  replace hH : Hp w.heap.size A18 w13 (obS (α := Int) 3 v16 s10.1 :: []) := hH19
  refine C_at (n := ⟨41, [], none⟩) (fun _ _ => rfl) ?_ ha15
  refine C_seq ?_
  refine C_region ?_
  refine V_y (Y_move rfl) rfl rfl rfl ?_
  refine V_y (Y_move rfl) rfl rfl rfl ?_
  refine V_y (Y_lenSl h_a_ rfl Tryd.underlying57 rfl) rfl rfl rfl ?_
  refine V_y (Y_move rfl) rfl rfl rfl ?_
  obtain ⟨x51, hx51, hm⟩ := Option.bind_eq_some_iff.1 hm
  refine V_indexAddrH (α := Int) (e := 3) (v := v16) (l := s10.1) hH (i := 0) rfl hx51 Tryd.underlying57 Tryd.sizeOf3 rfl rfl rfl ?_
  intro b52 o53 h54 hl55
  obtain ⟨x56, hx56, hm⟩ := Option.bind_eq_some_iff.1 hm
  refine V_storeH (α := Int) (e := 3) (v := v16) (l := s10.1) hH (i := 0) rfl hl55 hx56 rfl Tryd.sizeOf3 rfl hB hA rfl rfl ?_
  intro w57 hH58 ht59
  replace h_a_ := Sl.tr h_a_ ht59
  replace hK := Tr.trans hK ht59
  replace hB := Nat.le_trans hB ht59.ex.size
  replace hA := ht59.new
  replace hH : Hp w.heap.size A18 w57 (obS (α := Int) 3 v16 x56 :: []) := hH58
  refine V_to (fun _ _ => rfl) ?_
  refine C_seq ?_
  refine C_region ?_
  refine V_y (Y_move rfl) rfl rfl rfl ?_
  obtain ⟨A60, ht61, h62, hH63⟩ := Hp.freeze (α := Int) (v := v16) (l := x56) hH (i := 0) rfl hA
  replace hK := Tr.trans hK ht61
  replace hB := Nat.le_trans hB ht61.ex.size
  replace hA := ht61.new
  replace hH : Hp w.heap.size A60 w57 ([]) := hH63
  obtain ⟨x65, hx65, hm⟩ := Option.bind_eq_some_iff.1 hm
  refine V_call Tryd.call45 rfl rfl rfl rfl (staff_nat_trimmed_c w57 x56 v16 h62 hx65) ?_
  rintro v66 _ ⟨_, rfl, h67, rfl⟩
  refine V_y (Y_assign rfl) rfl rfl rfl ?_
  refine V_to (fun _ _ => rfl) ?_
  obtain rfl := Option.some.inj hm
  refine C_ret ?_
  try simp only [↓inBlock_ret, ↓then_ret]
  exact retQ rfl (Res.one Tryd.results37 rfl) ⟨v66, rfl, (Sl.out h67 hA0 hK), hK.kp⟩

set_option maxRecDepth 4000 in
set_option maxHeartbeats 4000000 in
theorem staff_nat_plus_c (w : World) {A : Nat → Prop} (hA : ∀ b, w.heap.size ≤ b → A b) (a_ : (List Int)) (v_a_ : Value) (h_a_ : Sl A w v_a_ a_) (b : (List Int)) (v_b : Value) (h_b : Sl A w v_b b) {r : (List Int)} (hm : staff_nat_plus a_ b = some r) : Ret Tryd.prog 39 #[v_a_, v_b] w fun v w' => ∃ s0, v = s0 ∧ Ownd 3 w w' s0 r ∧ Kp w w' := by
  unfold staff_nat_plus at hm
  refine enter Tryd.func39 rfl Tryd.ntmps39 rfl ?_
  have hA0 := hA
  have hB := Nat.le_refl w.heap.size
  have hK : Tr w.heap.size A w A w := Tr.refl hA
  have hH : Hp w.heap.size A w [] := Hp.nil
  refine C_seq ?_
  refine C_region ?_
  refine V_y (Y_assign rfl) rfl rfl rfl ?_
  refine V_to (fun _ _ => rfl) ?_
  refine C_seq ?_
  refine C_seq ?_
  refine C_region ?_
  refine V_y (Y_move rfl) rfl rfl rfl ?_
  refine V_y (Y_lenSl h_a_ rfl Tryd.underlying57 rfl) rfl rfl rfl ?_
  refine V_y (Y_move rfl) rfl rfl rfl ?_
  refine V_y (Y_lenSl h_b rfl Tryd.underlying57 rfl) rfl rfl rfl ?_
  refine V_y (Y_lss rfl rfl) rfl rfl rfl ?_
  refine V_to (fun _ _ => rfl) ?_
  obtain ⟨s6, ho5, hm⟩ := Option.bind_eq_some_iff.1 hm
  refine C_cutG (ι := (Value × Value)) (fun ⟨v8, v10⟩ => [(0, v8), (1, v10)]) (fun ⟨v8, v10⟩ => fun w' => Sl A w' v8 s6.1 ∧ Sl A w' v10 s6.2 ∧ w = w') ?_ ?_
  · refine C_cond rfl (fun hc15 => ?_) (fun hc15 => ?_)
    · rw [if_pos hc15] at ho5
      refine C_region ?_
      refine V_y (Y_move rfl) rfl rfl rfl ?_
      refine V_y (Y_move rfl) rfl rfl rfl ?_
      refine V_y (Y_assign rfl) rfl rfl rfl ?_
      refine V_y (Y_assign rfl) rfl rfl rfl ?_
      obtain rfl := Option.some.inj ho5
      refine V_end (fun a ha16 => ?_)
      exact ⟨(v_b, v_a_), ha16.sub ⟨rfl, rfl, trivial⟩, ⟨h_b, h_a_, rfl⟩⟩
    · rw [if_neg (nt hc15)] at ho5
      obtain rfl := Option.some.inj ho5
      refine C_skip (fun a ha17 => ?_)
      exact ⟨(v_a_, v_b), ha17.sub ⟨rfl, rfl, trivial⟩, ⟨h_a_, h_b, rfl⟩⟩
  rintro ⟨v8, v10⟩ _ ⟨h9, h11, rfl⟩ a ha14
  refine C_at (n := ⟨71, [], none⟩) (fun _ _ => rfl) ?_ ha14
  refine C_seq ?_
  refine C_region ?_
  refine V_y (Y_move rfl) rfl rfl rfl ?_
  refine V_y (Y_lenSl h9 rfl Tryd.underlying57 rfl) rfl rfl rfl ?_
  refine V_y (Y_move rfl) rfl rfl rfl ?_
  refine V_y (Y_lenSl h9 rfl Tryd.underlying57 rfl) rfl rfl rfl ?_
  refine V_y (Y_addI rfl rfl) rfl rfl rfl ?_
  obtain ⟨x18, hx18, hm⟩ := Option.bind_eq_some_iff.1 hm
  refine V_makeCH (e := 3) (ti := Tryd.t3) hH hx18 (fun _ _ => rfl) Tryd.underlying57 Tryd_info3 rfl rfl rfl (by decide) (by decide) hB hA rfl rfl rfl ?_
  intro v19 w20 A21 hH22 ht23
  replace h9 := Sl.tr h9 ht23
  replace h11 := Sl.tr h11 ht23
  replace hK := Tr.trans hK ht23
  replace hB := Nat.le_trans hB ht23.ex.size
  replace hA := ht23.new
  replace hH : Hp w.heap.size A21 w20 (obS (α := Int) 3 v19 x18 :: []) := hH22
  refine V_y (Y_assign rfl) rfl rfl rfl ?_
  refine V_to (fun _ _ => rfl) ?_
  refine C_seq ?_
  refine C_region ?_
  refine V_y (Y_move rfl) rfl rfl rfl ?_
  refine V_y (Y_move rfl) rfl rfl rfl ?_
  refine V_copyH (α := Int) (e := 3) (v := v19) (l := x18) hH (i := 0) rfl h9 rfl Tryd.underlying57 (by rw [Tryd_info3]; rfl) hB hA rfl rfl rfl ?_
  intro w24 hH25 ht26
  replace h9 := Sl.tr h9 ht26
  replace h11 := Sl.tr h11 ht26
  replace hK := Tr.trans hK ht26
  replace hB := Nat.le_trans hB ht26.ex.size
  replace hA := ht26.new
  replace hH : Hp w.heap.size A21 w24 (obS (α := Int) 3 v19 (copyL x18 s6.1) :: []) := hH25
  refine V_to (fun _ _ => rfl) ?_
  refine C_seq ?_
  refine C_region ?_
  refine V_y (Y_assign rfl) rfl rfl rfl ?_
  refine V_to (fun _ _ => rfl) ?_
  refine C_seq ?_
  refine C_seq ?_
  refine C_region ?_
  refine V_y (Y_assign rfl) rfl rfl rfl ?_
  refine V_to (fun _ _ => rfl) ?_
  obtain ⟨o27, ho27, hm⟩ := Option.bind_eq_some_iff.1 hm
  refine C_cutG (ι := (((List Int) × Int × Int) × Value × (Nat → Prop))) (fun ⟨s28, v34, A36⟩ => [(5, v34), (6, .int .i64 s28.2.1)]) (fun ⟨s28, v34, A36⟩ => fun w' => o27 = .fin s28 ∧ Hp w.heap.size A36 w' (obS (α := Int) 3 v34 s28.1 :: []) ∧ Tr w.heap.size A21 w24 A36 w') ?_ ?_
  · refine C_block ?_
    refine C_while ho27 (fun s38 a w' => ∃ i : (Value × (Nat → Prop)), Has ⟨71, [], none⟩ a ([(1, v10), (5, i.1), (6, .int .i64 s38.2.1), (7, .int .i64 s38.2.2)]) ∧ Hp w.heap.size i.2 w' (obS (α := Int) 3 i.1 s38.1 :: []) ∧ Tr w.heap.size A21 w24 i.2 w') (fun a ha => ⟨(v19, A21), ha.sub ⟨rfl, rfl, rfl, rfl, trivial⟩, ⟨hH, Tr.refl hA⟩⟩) ?_
    rintro K s38 a w39 ⟨⟨v40, A42⟩, ha85, hH43, hr29⟩ K50
    refine C_of ?_ ha85
    replace h11 := Sl.tr h11 hr29
    replace hK := Tr.trans hK hr29
    replace hB := Nat.le_trans hB hr29.ex.size
    replace hA := hr29.new
    replace hH : Hp w.heap.size A42 w39 (obS (α := Int) 3 v40 s38.1 :: []) := hH43
    obtain ⟨x44, h45, h46⟩ := K50
    refine C_seq ?_
    refine C_seq ?_
    refine C_region ?_
    refine V_y (Y_move rfl) rfl rfl rfl ?_
    refine V_y (Y_move rfl) rfl rfl rfl ?_
    refine V_y (Y_lenSl (Hp.any (α := Int) (e := 3) (v := v40) (l := s38.1) hH (i := 0) rfl) rfl Tryd.underlying57 rfl) rfl rfl rfl ?_
    refine V_y (Y_lss rfl rfl) rfl rfl rfl ?_
    refine V_y (Y_move rfl) rfl rfl rfl ?_
    refine V_cut 9 (fun _ : Unit => [(1, v10), (5, v40), (6, .int .i64 s38.2.1), (7, .int .i64 s38.2.2), (38, .bool ((decide (s38.2.2 < (s38.1.length : Int))) && ((decide (s38.2.2 < (s6.2.length : Int))) || (decide ((0 : Int) < s38.2.1)))))]) (fun _ w' => w39 = w') ?_ ?_
    · simp only [List.take, List.drop]
      rcases Bool.eq_false_or_eq_true (decide (s38.2.2 < (s38.1.length : Int))) with hc51 | hc51
      · refine V_ge rfl rfl rfl hc51 ?_
        refine V_y (Y_move rfl) rfl rfl rfl ?_
        refine V_ge rfl rfl rfl hc51 ?_
        refine V_y (Y_move rfl) rfl rfl rfl ?_
        refine V_ge rfl rfl rfl hc51 ?_
        refine V_y (Y_lenSl h11 rfl Tryd.underlying57 rfl) rfl rfl rfl ?_
        refine V_ge rfl rfl rfl hc51 ?_
        refine V_y (Y_lss rfl rfl) rfl rfl rfl ?_
        refine V_ge rfl rfl rfl hc51 ?_
        refine V_y (Y_move rfl) rfl rfl rfl ?_
        refine V_cut 3 (fun _ : Unit => [(1, v10), (5, v40), (6, .int .i64 s38.2.1), (7, .int .i64 s38.2.2), (29, .bool (decide (s38.2.2 < (s38.1.length : Int)))), (37, .bool ((decide (s38.2.2 < (s6.2.length : Int))) || (decide ((0 : Int) < s38.2.1))))]) (fun _ w' => w39 = w') ?_ ?_
        · simp only [List.take, List.drop]
          rcases Bool.eq_false_or_eq_true (decide (s38.2.2 < (s6.2.length : Int))) with hc53 | hc53
          · refine V_gn rfl rfl rfl hc53 rfl rfl rfl ?_
            refine V_gn rfl rfl rfl hc53 rfl rfl rfl ?_
            refine V_ge rfl rfl rfl hc51 ?_
            refine V_y (Y_pick_te rfl hc53 rfl) rfl rfl rfl ?_
            exact V_end fun a ha => ⟨(), ha.sub ⟨rfl, rfl, rfl, rfl, rfl, (by rw [hc53]; rfl), trivial⟩, rfl⟩
          · refine V_ge rfl rfl rfl hc53 ?_
            refine V_y (Y_move rfl) rfl rfl rfl ?_
            refine V_ge rfl rfl rfl hc53 ?_
            refine V_y (Y_gtr rfl rfl) rfl rfl rfl ?_
            refine V_ge rfl rfl rfl hc51 ?_
            refine V_y (Y_pick_fe rfl hc53 rfl) rfl rfl rfl ?_
            exact V_end fun a ha => ⟨(), ha.sub ⟨rfl, rfl, rfl, rfl, rfl, (by rw [hc53]; rfl), trivial⟩, rfl⟩
        simp only [List.take, List.drop]
        rintro _ _ rfl
        refine V_y (Y_pick_te rfl hc51 rfl) rfl rfl rfl ?_
        exact V_end fun a ha => ⟨(), ha.sub ⟨rfl, rfl, rfl, rfl, (by rw [hc51]; rfl), trivial⟩, rfl⟩
      · refine V_gn rfl rfl rfl hc51 rfl rfl rfl ?_
        refine V_gn rfl rfl rfl hc51 rfl rfl rfl ?_
        refine V_gn rfl rfl rfl hc51 rfl rfl rfl ?_
        refine V_gn rfl rfl rfl hc51 rfl rfl rfl ?_
        refine V_gn rfl rfl rfl hc51 rfl rfl rfl ?_
        refine V_gu rfl rfl rfl rfl rfl ?_
        refine V_gu rfl rfl rfl rfl rfl ?_
        refine V_gn rfl rfl rfl hc51 rfl rfl rfl ?_
        refine V_y (Y_pick_fe rfl hc51 rfl) rfl rfl rfl ?_
        exact V_end fun a ha => ⟨(), ha.sub ⟨rfl, rfl, rfl, rfl, (by rw [hc51]; rfl), trivial⟩, rfl⟩
    simp only [List.take, List.drop]
    rintro _ _ rfl
    refine V_to (fun _ _ => rfl) ?_
    refine C_cond rfl (fun hc55 => ?_) (fun hc55 => ?_)
    · rw [if_pos hc55] at h45
      refine C_skip_to (fun _ _ => rfl) ?_
      refine C_seq ?_
      refine C_block ?_
      refine C_seq ?_
      refine C_region ?_
      refine V_y (Y_move rfl) rfl rfl rfl ?_
      refine V_y (Y_move rfl) rfl rfl rfl ?_
      obtain ⟨x56, hx56, h45⟩ := Option.bind_eq_some_iff.1 h45
      refine V_indexAddrH (α := Int) (e := 3) (v := v40) (l := s38.1) hH (i := 0) rfl hx56 Tryd.underlying57 Tryd.sizeOf3 rfl rfl rfl ?_
      intro b57 o58 h59 hl60
      refine V_y (Y_load (El.int h59) Tryd.isAgg3 rfl) rfl rfl rfl ?_
      refine V_y (Y_move rfl) rfl rfl rfl ?_
      refine V_y (Y_addI rfl rfl) rfl rfl rfl ?_
      refine V_y (Y_assign rfl) rfl rfl rfl ?_
      refine V_to (fun _ _ => rfl) ?_
      refine C_seq ?_
      refine C_seq ?_
      refine C_region ?_
      refine V_y (Y_move rfl) rfl rfl rfl ?_
      refine V_y (Y_move rfl) rfl rfl rfl ?_
      refine V_y (Y_lenSl h11 rfl Tryd.underlying57 rfl) rfl rfl rfl ?_
      refine V_y (Y_lss rfl rfl) rfl rfl rfl ?_
      refine V_to (fun _ _ => rfl) ?_
      obtain ⟨s62, ho61, h45⟩ := Option.bind_eq_some_iff.1 h45
      refine C_cutG (ι := Unit) (fun (_ : Unit) => [(1, v10), (5, v40), (7, .int .i64 s38.2.2), (8, .int .i64 s62)]) (fun (_ : Unit) => fun w' => w39 = w') ?_ ?_
      · refine C_cond rfl (fun hc68 => ?_) (fun hc68 => ?_)
        · rw [if_pos hc68] at ho61
          refine C_region ?_
          refine V_y (Y_move rfl) rfl rfl rfl ?_
          refine V_y (Y_move rfl) rfl rfl rfl ?_
          refine V_y (Y_move rfl) rfl rfl rfl ?_
          obtain ⟨x69, hx69, ho61⟩ := Option.bind_eq_some_iff.1 ho61
          refine V_indexAddr h11 hx69 Tryd.underlying57 Tryd.sizeOf3 rfl rfl rfl ?_
          intro b70 o71 h72
          refine V_y (Y_load (El.int h72) Tryd.isAgg3 rfl) rfl rfl rfl ?_
          refine V_y (Y_addI rfl rfl) rfl rfl rfl ?_
          refine V_y (Y_assign rfl) rfl rfl rfl ?_
          obtain rfl := Option.some.inj ho61
          refine V_end (fun a ha73 => ?_)
          exact ⟨(), ha73.sub ⟨rfl, rfl, rfl, rfl, trivial⟩, rfl⟩
        · rw [if_neg (nt hc68)] at ho61
          obtain rfl := Option.some.inj ho61
          refine C_skip (fun a ha74 => ?_)
          exact ⟨(), ha74.sub ⟨rfl, rfl, rfl, rfl, trivial⟩, rfl⟩
      rintro _ _ rfl a ha67
      refine C_at (n := ⟨71, [], none⟩) (fun _ _ => rfl) ?_ ha67
      refine C_region ?_
      refine V_y (Y_move rfl) rfl rfl rfl ?_
      refine V_y (Y_move rfl) rfl rfl rfl ?_
      refine V_y (Y_move rfl) rfl rfl rfl ?_
      refine V_y (Y_rem (by rw [rem, if_neg (by decide)]) rfl rfl) rfl rfl rfl ?_
      refine V_y (Y_move rfl) rfl rfl rfl ?_
      refine V_y (Y_quo (by rw [quo, if_neg (by decide)]) rfl rfl) rfl rfl rfl ?_
      refine V_indexAddrH (α := Int) (e := 3) (v := v40) (l := s38.1) hH (i := 0) rfl hx56 Tryd.underlying57 Tryd.sizeOf3 rfl rfl rfl ?_
      intro b75 o76 h77 hl78
      obtain ⟨x79, hx79, h45⟩ := Option.bind_eq_some_iff.1 h45
      refine V_storeH (α := Int) (e := 3) (v := v40) (l := s38.1) hH (i := 0) rfl hl78 hx79 rfl Tryd.sizeOf3 rfl hB hA rfl rfl ?_
      intro w80 hH81 ht82
      replace h11 := Sl.tr h11 ht82
      replace hK := Tr.trans hK ht82
      replace hr29 := Tr.trans hr29 ht82
      replace hB := Nat.le_trans hB ht82.ex.size
      replace hA := ht82.new
      replace hH : Hp w.heap.size A42 w80 (obS (α := Int) 3 v40 x79 :: []) := hH81
      refine V_y (Y_assign rfl) rfl rfl rfl ?_
      refine V_to (fun _ _ => rfl) ?_
      refine C_region ?_
      refine V_y (Y_move rfl) rfl rfl rfl ?_
      refine V_y (Y_addI rfl rfl) rfl rfl rfl ?_
      refine V_y (Y_assign rfl) rfl rfl rfl ?_
      obtain rfl := Option.some.inj h45
      refine V_end (fun a ha83 => ?_)
      exact ⟨(x79, w64 (Int.tdiv s62 1000000000), w64 (s38.2.2 + 1)), h46, ⟨(v40, A42), ha83.sub ⟨rfl, rfl, rfl, rfl, trivial⟩, ⟨hH, hr29⟩⟩⟩
    · rw [if_neg (nt hc55)] at h45
      obtain rfl := Option.some.inj h45
      refine C_exit (fun a ha84 => ?_)
      exact ⟨((s38.1, s38.2.1, s38.2.2), v40, A42), ha84.sub ⟨rfl, rfl, trivial⟩, ⟨h46.symm, hH, hr29⟩⟩
  rintro ⟨s28, v34, A36⟩ w31 ⟨rfl, hH37, hk32⟩ a ha33
  rw [Lp.andThen_fin] at hm
  replace hK := Tr.trans hK hk32
  replace hB := Nat.le_trans hB hk32.ex.size
  replace hA := hk32.new
  replace hH : Hp w.heap.size A36 w31 (obS (α := Int) 3 v34 s28.1 :: []) := hH37
  refine C_at (n := ⟨71, [], none⟩) (fun _ _ => rfl) ?_ ha33
  refine C_seq ?_
  refine C_seq ?_
  refine C_region ?_
  refine V_y (Y_move rfl) rfl rfl rfl ?_
  refine V_y (Y_gtr rfl rfl) rfl rfl rfl ?_
  refine V_to (fun _ _ => rfl) ?_
  obtain ⟨s87, ho86, hm⟩ := Option.bind_eq_some_iff.1 hm
  refine C_cutG (ι := (Value × (Nat → Prop))) (fun ⟨v89, A94⟩ => [(5, v89)]) (fun ⟨v89, A94⟩ => fun w' => Hp w.heap.size A94 w' (obS (α := Int) 3 v89 s87 :: []) ∧ Tr w.heap.size A36 w31 A94 w') ?_ ?_
  · have hr88 : Tr w.heap.size A36 w31 A36 w31 := Tr.refl hA
    refine C_cond rfl (fun hc96 => ?_) (fun hc96 => ?_)
    · rw [if_pos hc96] at ho86
      refine C_region ?_
      refine V_y (Y_move rfl) rfl rfl rfl ?_
      refine V_y (Y_move rfl) rfl rfl rfl ?_
      refine V_buildSlice (l := ([s28.2.1] : List Int)) (len := 1) Tryd.underlying57 Tryd.sizeOf3 Tryd.zeroValue3 rfl (by with_unfolding_all rfl) (by decide) (by decide) hA ⟨[.int .i64 s28.2.1], _, rfl, rfl, rfl⟩ rfl rfl ?_
      intro v97 w98 hk100 h99
      have ht101 := Kp.tr hk100 hA hB
      replace hH := Hp.kp hH hk100
      replace hK := Tr.trans hK ht101
      replace hr88 := Tr.trans hr88 ht101
      replace hB := Nat.le_trans hB ht101.ex.size
      replace hA := ht101.new
      obtain ⟨x102, hx102, ho86⟩ := Option.bind_eq_some_iff.1 ho86
      refine V_appendH (e := 3) (v := v34) (l := s28.1) (ti := Tryd.t3) (bytes := 8) (lim := 17592186044416) hH (i := 0) rfl h99 hx102 Tryd.underlying57 Tryd_info3 rfl rfl rfl rfl (by decide) (by decide) (by decide) hB hA rfl rfl rfl ?_
      intro v103 w104 A105 hH106 ht107
      replace h99 := Sl.tr h99 ht107
      replace hK := Tr.trans hK ht107
      replace hr88 := Tr.trans hr88 ht107
      replace hB := Nat.le_trans hB ht107.ex.size
      replace hA := ht107.new
      replace hH : Hp w.heap.size A105 w104 (obS (α := Int) 3 v103 x102 :: []) := hH106
      refine V_y (Y_assign rfl) rfl rfl rfl ?_
      obtain rfl := Option.some.inj ho86
      refine V_end (fun a ha108 => ?_)
      exact ⟨(v103, A105), ha108.sub ⟨rfl, trivial⟩, ⟨hH, hr88⟩⟩
    · rw [if_neg (nt hc96)] at ho86
      obtain rfl := Option.some.inj ho86
      refine C_skip (fun a ha109 => ?_)
      exact ⟨(v34, A36), ha109.sub ⟨rfl, trivial⟩, ⟨hH, hr88⟩⟩
  rintro ⟨v89, A94⟩ w91 ⟨hH95, hk92⟩ a ha93
  replace hK := Tr.trans hK hk92
  replace hB := Nat.le_trans hB hk92.ex.size
  replace hA := hk92.new
  replace hH : Hp w.heap.size A94 w91 (obS (α := Int) 3 v89 s87 :: []) := hH95
  refine C_at (n := ⟨71, [], none⟩) (fun _ _ => rfl) ?_ ha93
  refine C_seq ?_
  refine C_region ?_
  refine V_y (Y_move rfl) rfl rfl rfl ?_
  refine V_y (Y_assign rfl) rfl rfl rfl ?_
  refine V_to (fun _ _ => rfl) ?_
  obtain rfl := Option.some.inj hm
  refine C_ret ?_
  try simp only [↓inBlock_ret, ↓then_ret]
  exact retQ rfl (Res.one Tryd.results39 rfl) ⟨v89, rfl, (Hp.ownd hH (i := 0) rfl), hK.kp⟩

set_option maxRecDepth 4000 in
set_option maxHeartbeats 4000000 in
theorem staff_Load_blocked_c (w : World) {A : Nat → Prop} (hA : ∀ b, w.heap.size ≤ b → A b) (l : staff_Load) (n : Int) {r : staff_ratio} (hm : staff_Load_blocked l n = some r) : Ret Tryd.prog 38 #[.agg #[.int .i64 l.calls, .int .i64 l.length, .int .i64 l.span], .int .i64 n] w fun v w' => ∃ s0 s1, v = .agg #[s0, s1] ∧ Sl A w' s0 r.num ∧ Sl A w' s1 r.den ∧ Kp w w' := by
  unfold staff_Load_blocked at hm
  refine enter Tryd.func38 rfl Tryd.ntmps38 rfl ?_
  have hA0 := hA
  have hB := Nat.le_refl w.heap.size
  have hK : Tr w.heap.size A w A w := Tr.refl hA
  have hH : Hp w.heap.size A w [] := Hp.nil
  refine C_seq ?_
  refine C_region ?_
  refine V_box rfl rfl ?_
  intro b1 w2 h3
  have hk5 := h3.kp
  have h4 : El (α := staff_Load) A w2 b1 0 l := h3.el hA ⟨[.int .i64 l.calls], _, rfl, rfl, ⟨[.int .i64 l.length], _, rfl, rfl, rfl⟩⟩
  have ht6 := Kp.tr hk5 hA hB
  replace hH := Hp.kp hH hk5
  replace hK := Tr.trans hK ht6
  replace hB := Nat.le_trans hB ht6.ex.size
  replace hA := ht6.new
  refine V_allocH (B := w.heap.size) hH Tryd.zeroValue59 hB hA rfl ?_
  intro b7 w9 A10 hH11 ht12
  replace h4 := El.tr h4 ht12
  replace hK := Tr.trans hK ht12
  replace hB := Nat.le_trans hB ht12.ex.size
  replace hA := ht12.new
  replace hH : Hp w.heap.size A10 w9 (obC b7 [.slice none 0 0, .slice none 0 0] 59 :: []) := hH11
  refine V_to (fun _ _ => rfl) ?_
  refine C_seq ?_
  refine C_region ?_
  obtain ⟨h13, _⟩ := El_staff_Load h4
  refine V_y (Y_loadA h13 Tryd.isAgg34 Tryd.sizeOf34 rfl) rfl rfl rfl ?_
  obtain ⟨x14, hx14, hm⟩ := Option.bind_eq_some_iff.1 hm
  refine V_call Tryd.call36 rfl rfl rfl rfl (staff_Load_offered_c w9 hA l hx14) ?_
  rintro _ w15 ⟨rfl, hk16⟩
  have ht17 := Kp.tr hk16 hA hB
  replace hH := Hp.kp hH hk16
  replace h4 := El.tr h4 ht17
  replace hK := Tr.trans hK ht17
  replace hB := Nat.le_trans hB ht17.ex.size
  replace hA := ht17.new
  refine V_y (Y_move rfl) rfl rfl rfl ?_
  refine V_y (Y_extract rfl rfl) rfl rfl rfl ?_
  refine V_y (Y_extract rfl rfl) rfl rfl rfl ?_
  refine V_y (Y_assign rfl) rfl rfl rfl ?_
  refine V_y (Y_assign rfl) rfl rfl rfl ?_
  refine V_to (fun _ _ => rfl) ?_
  refine C_seq ?_
  refine C_region ?_
  refine V_buildSlice (l := ([1] : List Int)) (len := 1) Tryd.underlying57 Tryd.sizeOf3 Tryd.zeroValue3 rfl (by with_unfolding_all rfl) (by decide) (by decide) hA ⟨[.int .i64 1], _, rfl, rfl, rfl⟩ rfl rfl ?_
  intro v18 w19 hk21 h20
  have ht22 := Kp.tr hk21 hA hB
  replace hH := Hp.kp hH hk21
  replace hK := Tr.trans hK ht22
  replace hB := Nat.le_trans hB ht22.ex.size
  replace hA := ht22.new
  refine V_buildSlice (l := ([1] : List Int)) (len := 1) Tryd.underlying57 Tryd.sizeOf3 Tryd.zeroValue3 rfl (by with_unfolding_all rfl) (by decide) (by decide) hA ⟨[.int .i64 1], _, rfl, rfl, rfl⟩ rfl rfl ?_
  intro v23 w24 hk26 h25
  have ht27 := Kp.tr hk26 hA hB
  replace hH := Hp.kp hH hk26
  replace h20 := Sl.tr h20 ht27
  replace hK := Tr.trans hK ht27
  replace hB := Nat.le_trans hB ht27.ex.size
  replace hA := ht27.new
  refine V_y (Y_build (cells := #[v18, v23]) Tryd.underlying59 Tryd.zeroValue59 (Tryd_places59 _ Tryd.underlying59) rfl (by obtain ⟨a28, c29, e30, _⟩ := Sl.form h20; subst e30; obtain ⟨a31, c32, e33, _⟩ := Sl.form h25; subst e33; with_unfolding_all rfl)) rfl rfl rfl ?_
  refine V_allocH (B := w.heap.size) hH Tryd.zeroValue59 hB hA rfl ?_
  intro b34 w35 A36 hH37 ht38
  replace h20 := Sl.tr h20 ht38
  replace h25 := Sl.tr h25 ht38
  replace hK := Tr.trans hK ht38
  replace hB := Nat.le_trans hB ht38.ex.size
  replace hA := ht38.new
  replace hH : Hp w.heap.size A36 w35 (obC b34 [.slice none 0 0, .slice none 0 0] 59 :: obC b7 [.slice none 0 0, .slice none 0 0] 59 :: []) := hH37
  have h44 : (v18).oneCell' = true := by obtain ⟨_, _, e, _⟩ := Sl.form h20; rw [e]; rfl
  have h47 : (v23).oneCell' = true := by obtain ⟨_, _, e, _⟩ := Sl.form h25; rw [e]; rfl
  refine V_storeC (off := 0) (ds := [v18, v23]) hH (i := 0) rfl Tryd.sizeOf59 rfl (Nat.le_of_ble_eq_true rfl) (by exact (List.forall_mem_cons.2 ⟨h44, (List.forall_mem_cons.2 ⟨h47, (fun _ h => nomatch h)⟩)⟩)) rfl hB hA rfl rfl ?_
  intro w39 hH40 ht41
  replace h20 := Sl.tr h20 ht41
  replace h25 := Sl.tr h25 ht41
  replace hK := Tr.trans hK ht41
  replace hB := Nat.le_trans hB ht41.ex.size
  replace hA := ht41.new
  replace hH : Hp w.heap.size A36 w39 (obC b34 [v18, v23] 59 :: obC b7 [.slice none 0 0, .slice none 0 0] 59 :: []) := hH40
  refine V_to (fun _ _ => rfl) ?_
  refine C_seq ?_
  refine C_seq ?_
  refine C_region ?_
  refine V_y (Y_move rfl) rfl rfl rfl ?_
  refine V_y (Y_move rfl) rfl rfl rfl ?_
  refine V_to (fun _ _ => rfl) ?_
  obtain ⟨o48, ho48, hm⟩ := Option.bind_eq_some_iff.1 hm
  refine C_cutG (ι := ((Int × staff_ratio) × Value × Value × (Nat → Prop))) (fun ⟨s49, v55, v57, A59⟩ => [(4, .pointer (some ⟨b7, 0, none⟩)), (7, .pointer (some ⟨b34, 0, none⟩))]) (fun ⟨s49, v55, v57, A59⟩ => fun w' => o48 = .fin s49 ∧ Sl A59 w' v55 s49.2.num ∧ Sl A59 w' v57 s49.2.den ∧ Hp w.heap.size A59 w' (obC b34 [v55, v57] 59 :: obC b7 [.slice none 0 0, .slice none 0 0] 59 :: []) ∧ Tr w.heap.size A36 w39 A59 w') ?_ ?_
  · refine C_block ?_
    refine C_while ho48 (fun s61 a w' => ∃ i : (Value × Value × (Nat → Prop)), Has ⟨39, [], none⟩ a ([(4, .pointer (some ⟨b7, 0, none⟩)), (5, .int .i64 x14.1), (6, .int .i64 x14.2), (7, .pointer (some ⟨b34, 0, none⟩)), (18, .int .i64 n), (19, .int .i64 s61.1)]) ∧ Sl i.2.2 w' i.1 s61.2.num ∧ Sl i.2.2 w' i.2.1 s61.2.den ∧ Hp w.heap.size i.2.2 w' (obC b34 [i.1, i.2.1] 59 :: obC b7 [.slice none 0 0, .slice none 0 0] 59 :: []) ∧ Tr w.heap.size A36 w39 i.2.2 w') (fun a ha => ⟨(v18, v23, A36), ha.sub ⟨rfl, rfl, rfl, rfl, rfl, rfl, trivial⟩, ⟨h20, h25, hH, Tr.refl hA⟩⟩) ?_
    rintro K s61 a w62 ⟨⟨v63, v65, A67⟩, ha119, h64, h66, hH68, hr50⟩ K75
    refine C_of ?_ ha119
    replace hK := Tr.trans hK hr50
    replace hB := Nat.le_trans hB hr50.ex.size
    replace hA := hr50.new
    replace hH : Hp w.heap.size A67 w62 (obC b34 [v63, v65] 59 :: obC b7 [.slice none 0 0, .slice none 0 0] 59 :: []) := hH68
    obtain ⟨x69, h70, h71⟩ := K75
    refine C_seq ?_
    refine C_region ?_
    refine V_y (Y_lss rfl rfl) rfl rfl rfl ?_
    refine V_to (fun _ _ => rfl) ?_
    refine C_seq ?_
    refine C_cond rfl (fun hc76 => ?_) (fun hc76 => ?_)
    · rw [if_pos hc76] at h70
      refine C_skip_to (fun _ _ => rfl) ?_
      refine C_seq ?_
      refine C_block ?_
      refine C_seq ?_
      refine C_region ?_
      refine V_y (Y_move rfl) rfl rfl rfl ?_
      refine V_y (Y_assign rfl) rfl rfl rfl ?_
      refine V_to (fun _ _ => rfl) ?_
      refine C_seq ?_
      refine C_region ?_
      refine V_y (Y_fieldAddrC (off2 := 0) Tryd.underlying59 rfl Tryd.sizeOf57 (by decide) rfl rfl) rfl rfl rfl ?_
      refine V_y (Y_load (Hp.cell (j := 0) hH (i := 0) rfl rfl) Tryd.isAgg57 rfl) rfl rfl rfl ?_
      refine V_y (Y_move rfl) rfl rfl rfl ?_
      obtain ⟨x77, hx77, h70⟩ := Option.bind_eq_some_iff.1 h70
      refine V_call Tryd.call37 rfl rfl rfl rfl (staff_nat_small_c w62 hA s61.2.num v63 h64 x14.1 hx77) ?_
      rintro v78 w80 ⟨_, rfl, h79, hk81⟩
      have ht82 := Kp.tr hk81 hA hB
      replace hH := Hp.kp hH hk81
      replace h64 := Sl.tr h64 ht82
      replace h66 := Sl.tr h66 ht82
      replace hK := Tr.trans hK ht82
      replace hr50 := Tr.trans hr50 ht82
      replace hB := Nat.le_trans hB ht82.ex.size
      replace hA := ht82.new
      refine V_y (Y_assign rfl) rfl rfl rfl ?_
      refine V_to (fun _ _ => rfl) ?_
      refine C_region ?_
      refine V_y (Y_move rfl) rfl rfl rfl ?_
      refine V_y (Y_fieldAddrC (off2 := 1) Tryd.underlying59 rfl Tryd.sizeOf57 (by decide) rfl rfl) rfl rfl rfl ?_
      refine V_y (Y_load (Hp.cell (j := 1) hH (i := 0) rfl rfl) Tryd.isAgg57 rfl) rfl rfl rfl ?_
      refine V_y (Y_move rfl) rfl rfl rfl ?_
      refine V_y (Y_addI rfl rfl) rfl rfl rfl ?_
      refine V_y (Y_move rfl) rfl rfl rfl ?_
      refine V_y (Y_mulI rfl rfl) rfl rfl rfl ?_
      obtain ⟨x83, hx83, h70⟩ := Option.bind_eq_some_iff.1 h70
      refine V_call Tryd.call37 rfl rfl rfl rfl (staff_nat_small_c w80 hA s61.2.den v65 h66 (w64 ((w64 (s61.1 + 1)) * x14.2)) hx83) ?_
      rintro v84 w86 ⟨_, rfl, h85, hk87⟩
      have ht88 := Kp.tr hk87 hA hB
      replace hH := Hp.kp hH hk87
      replace h79 := Sl.tr h79 ht88
      replace h66 := Sl.tr h66 ht88
      replace h64 := Sl.tr h64 ht88
      replace hK := Tr.trans hK ht88
      replace hr50 := Tr.trans hr50 ht88
      replace hB := Nat.le_trans hB ht88.ex.size
      replace hA := ht88.new
      refine V_y (Y_move rfl) rfl rfl rfl ?_
      obtain ⟨x89, hx89, h70⟩ := Option.bind_eq_some_iff.1 h70
      refine V_call Tryd.call39 rfl rfl rfl rfl (staff_nat_plus_c w86 hA x83 v84 h85 x77 v78 h79 hx89) ?_
      rintro v90 w92 ⟨_, rfl, h91, hk93⟩
      obtain ⟨A94, ht95, hH96⟩ := Hp.addOwnd hH hB hA hk93 h91
      replace h79 := Sl.tr h79 ht95
      replace h66 := Sl.tr h66 ht95
      replace h85 := Sl.tr h85 ht95
      replace h64 := Sl.tr h64 ht95
      replace hK := Tr.trans hK ht95
      replace hr50 := Tr.trans hr50 ht95
      replace hB := Nat.le_trans hB ht95.ex.size
      replace hA := ht95.new
      replace hH : Hp w.heap.size A94 w92 (obS (α := Int) 3 v90 x89 :: obC b34 [v63, v65] 59 :: obC b7 [.slice none 0 0, .slice none 0 0] 59 :: []) := hH96
      refine V_y (Y_build (cells := #[v78, v90]) Tryd.underlying59 Tryd.zeroValue59 (Tryd_places59 _ Tryd.underlying59) rfl (by obtain ⟨a97, c98, e99, _⟩ := Sl.form h79; subst e99; obtain ⟨a100, c101, e102, _⟩ := Hp.form (α := Int) (e := 3) (v := v90) (l := x89) hH (i := 0) rfl; subst e102; with_unfolding_all rfl)) rfl rfl rfl ?_
      obtain ⟨A103, ht104, h105, hH106⟩ := Hp.freeze (α := Int) (v := v90) (l := x89) hH (i := 0) rfl hA
      replace h79 := Sl.tr h79 ht104
      replace h66 := Sl.tr h66 ht104
      replace h85 := Sl.tr h85 ht104
      replace h64 := Sl.tr h64 ht104
      replace hK := Tr.trans hK ht104
      replace hr50 := Tr.trans hr50 ht104
      replace hB := Nat.le_trans hB ht104.ex.size
      replace hA := ht104.new
      replace hH : Hp w.heap.size A103 w92 (obC b34 [v63, v65] 59 :: obC b7 [.slice none 0 0, .slice none 0 0] 59 :: []) := hH106
      have h113 : (v78).oneCell' = true := by obtain ⟨_, _, e, _⟩ := Sl.form h79; rw [e]; rfl
      have h116 : (v90).oneCell' = true := by obtain ⟨_, _, e, _⟩ := Sl.form h105; rw [e]; rfl
      refine V_storeC (off := 0) (ds := [v78, v90]) hH (i := 0) rfl Tryd.sizeOf59 rfl (Nat.le_of_ble_eq_true rfl) (by exact (List.forall_mem_cons.2 ⟨h113, (List.forall_mem_cons.2 ⟨h116, (fun _ h => nomatch h)⟩)⟩)) rfl hB hA rfl rfl ?_
      intro w108 hH109 ht110
      replace h79 := Sl.tr h79 ht110
      replace h66 := Sl.tr h66 ht110
      replace h85 := Sl.tr h85 ht110
      replace h105 := Sl.tr h105 ht110
      replace h64 := Sl.tr h64 ht110
      replace hK := Tr.trans hK ht110
      replace hr50 := Tr.trans hr50 ht110
      replace hB := Nat.le_trans hB ht110.ex.size
      replace hA := ht110.new
      replace hH : Hp w.heap.size A103 w108 (obC b34 [v78, v90] 59 :: obC b7 [.slice none 0 0, .slice none 0 0] 59 :: []) := hH109
      refine V_to (fun _ _ => rfl) ?_
      refine C_region ?_
      refine V_y (Y_addI rfl rfl) rfl rfl rfl ?_
      refine V_y (Y_move rfl) rfl rfl rfl ?_
      obtain rfl := Option.some.inj h70
      refine V_end (fun a ha117 => ?_)
      exact ⟨(w64 (s61.1 + 1), (⟨x77, x89⟩ : staff_ratio)), h71, ⟨(v78, v90, A103), ha117.sub ⟨rfl, rfl, rfl, rfl, rfl, rfl, trivial⟩, ⟨h79, h105, hH, hr50⟩⟩⟩
    · rw [if_neg (nt hc76)] at h70
      obtain rfl := Option.some.inj h70
      refine C_exit (fun a ha118 => ?_)
      exact ⟨((s61.1, s61.2), v63, v65, A67), ha118.sub ⟨rfl, rfl, trivial⟩, ⟨h71.symm, h64, h66, hH, hr50⟩⟩
  rintro ⟨s49, v55, v57, A59⟩ w52 ⟨rfl, h56, h58, hH60, hk53⟩ a ha54
  rw [Lp.andThen_fin] at hm
  replace hK := Tr.trans hK hk53
  replace hB := Nat.le_trans hB hk53.ex.size
  replace hA := hk53.new
  replace hH : Hp w.heap.size A59 w52 (obC b34 [v55, v57] 59 :: obC b7 [.slice none 0 0, .slice none 0 0] 59 :: []) := hH60
  refine C_at (n := ⟨39, [], none⟩) (fun _ _ => rfl) ?_ ha54
  refine C_seq ?_
  refine C_region ?_
  refine V_y (Y_loadA (Hp.part (off := 0) (n := 2) (ds := [v55, v57]) hH (i := 0) rfl rfl) Tryd.isAgg59 Tryd.sizeOf59 rfl) rfl rfl rfl ?_
  have h125 : (v55).oneCell' = true := by obtain ⟨_, _, e, _⟩ := Sl.form h56; rw [e]; rfl
  have h128 : (v57).oneCell' = true := by obtain ⟨_, _, e, _⟩ := Sl.form h58; rw [e]; rfl
  refine V_storeC (off := 0) (ds := [v55, v57]) hH (i := 1) rfl Tryd.sizeOf59 rfl (Nat.le_of_ble_eq_true rfl) (by exact (List.forall_mem_cons.2 ⟨h125, (List.forall_mem_cons.2 ⟨h128, (fun _ h => nomatch h)⟩)⟩)) rfl hB hA rfl rfl ?_
  intro w120 hH121 ht122
  replace h56 := Sl.tr h56 ht122
  replace h58 := Sl.tr h58 ht122
  replace hK := Tr.trans hK ht122
  replace hB := Nat.le_trans hB ht122.ex.size
  replace hA := ht122.new
  replace hH : Hp w.heap.size A59 w120 (obC b34 [v55, v57] 59 :: obC b7 [v55, v57] 59 :: []) := hH121
  refine V_to (fun _ _ => rfl) ?_
  obtain rfl := Option.some.inj hm
  refine C_ret ?_
  try simp only [↓inBlock_ret, ↓then_ret]
  exact retQ rfl (Res.l1 Tryd.results38 (RL.cell rfl (loadVar_agg (Hp.part (off := 0) (n := 2) (ds := [v55, v57]) hH (i := 1) rfl rfl) Tryd.isAgg59 Tryd.sizeOf59))) ⟨v55, v57, rfl, (Sl.out h56 hA0 hK), (Sl.out h58 hA0 hK), hK.kp⟩

set_option maxRecDepth 4000 in
set_option maxHeartbeats 4000000 in
theorem staff_Load_waits_c (w : World) {A : Nat → Prop} (hA : ∀ b, w.heap.size ≤ b → A b) (l : staff_Load) (n : Int) {r : staff_ratio} (hm : staff_Load_waits l n = some r) : Ret Tryd.prog 29 #[.agg #[.int .i64 l.calls, .int .i64 l.length, .int .i64 l.span], .int .i64 n] w fun v w' => ∃ s0 s1, v = .agg #[s0, s1] ∧ Sl A w' s0 r.num ∧ Sl A w' s1 r.den ∧ Kp w w' := by
  unfold staff_Load_waits at hm
  refine enter Tryd.func29 rfl Tryd.ntmps29 rfl ?_
  have hA0 := hA
  have hB := Nat.le_refl w.heap.size
  have hK : Tr w.heap.size A w A w := Tr.refl hA
  have hH : Hp w.heap.size A w [] := Hp.nil
  refine C_seq ?_
  refine C_region ?_
  refine V_box rfl rfl ?_
  intro b1 w2 h3
  have hk5 := h3.kp
  have h4 : El (α := staff_Load) A w2 b1 0 l := h3.el hA ⟨[.int .i64 l.calls], _, rfl, rfl, ⟨[.int .i64 l.length], _, rfl, rfl, rfl⟩⟩
  have ht6 := Kp.tr hk5 hA hB
  replace hH := Hp.kp hH hk5
  replace hK := Tr.trans hK ht6
  replace hB := Nat.le_trans hB ht6.ex.size
  replace hA := ht6.new
  refine V_allocH (B := w.heap.size) hH Tryd.zeroValue59 hB hA rfl ?_
  intro b7 w9 A10 hH11 ht12
  replace h4 := El.tr h4 ht12
  replace hK := Tr.trans hK ht12
  replace hB := Nat.le_trans hB ht12.ex.size
  replace hA := ht12.new
  replace hH : Hp w.heap.size A10 w9 (obC b7 [.slice none 0 0, .slice none 0 0] 59 :: []) := hH11
  refine V_to (fun _ _ => rfl) ?_
  refine C_seq ?_
  refine C_seq ?_
  refine C_region ?_
  have h13 := El_staff_Load_0 h4
  refine V_y (Y_fieldAddr Tryd.underlying34 rfl Tryd.sizeOf3 (by decide) rfl) rfl rfl rfl ?_
  refine V_y (Y_load (El.int h13) Tryd.isAgg3 rfl) rfl rfl rfl ?_
  refine V_y (Y_eql rfl rfl) rfl rfl rfl ?_
  refine V_to (fun _ _ => rfl) ?_
  refine C_cond rfl (fun hc14 => ?_) (fun hc14 => ?_)
  · rw [if_pos hc14] at hm
    refine C_seq ?_
    refine C_region ?_
    refine V_buildSlice (l := ([1] : List Int)) (len := 1) Tryd.underlying57 Tryd.sizeOf3 Tryd.zeroValue3 rfl (by with_unfolding_all rfl) (by decide) (by decide) hA ⟨[.int .i64 1], _, rfl, rfl, rfl⟩ rfl rfl ?_
    intro v15 w17 hk19 h18
    have ht20 := Kp.tr hk19 hA hB
    replace hH := Hp.kp hH hk19
    replace h4 := El.tr h4 ht20
    replace hK := Tr.trans hK ht20
    replace hB := Nat.le_trans hB ht20.ex.size
    replace hA := ht20.new
    refine V_y (Y_build (cells := #[.slice none 0 0, v15]) Tryd.underlying59 Tryd.zeroValue59 (Tryd_places59 _ Tryd.underlying59) rfl (by obtain ⟨a21, c22, e23, _⟩ := Sl.form h18; subst e23; with_unfolding_all rfl)) rfl rfl rfl ?_
    have h29 : (v15).oneCell' = true := by obtain ⟨_, _, e, _⟩ := Sl.form h18; rw [e]; rfl
    refine V_storeC (off := 0) (ds := [.slice none 0 0, v15]) hH (i := 0) rfl Tryd.sizeOf59 rfl (Nat.le_of_ble_eq_true rfl) (by exact (List.forall_mem_cons.2 ⟨rfl, (List.forall_mem_cons.2 ⟨h29, (fun _ h => nomatch h)⟩)⟩)) rfl hB hA rfl rfl ?_
    intro w24 hH25 ht26
    replace h4 := El.tr h4 ht26
    replace h18 := Sl.tr h18 ht26
    replace hK := Tr.trans hK ht26
    replace hB := Nat.le_trans hB ht26.ex.size
    replace hA := ht26.new
    replace hH : Hp w.heap.size A10 w24 (obC b7 [.slice none 0 0, v15] 59 :: []) := hH25
    refine V_to (fun _ _ => rfl) ?_
    obtain rfl := Option.some.inj hm
    refine C_ret ?_
    try simp only [↓inBlock_ret, ↓then_ret]
    exact retQ rfl (Res.l1 Tryd.results29 (RL.cell rfl (loadVar_agg (Hp.part (off := 0) (n := 2) (ds := [.slice none 0 0, v15]) hH (i := 0) rfl rfl) Tryd.isAgg59 Tryd.sizeOf59))) ⟨.slice none 0 0, v15, rfl, Sl.nil, (Sl.out h18 hA0 hK), hK.kp⟩
  · rw [if_neg (nt hc14)] at hm
    refine C_skip_to (fun _ _ => rfl) ?_
    refine C_seq ?_
    refine C_seq ?_
    refine C_region ?_
    obtain ⟨h30, _⟩ := El_staff_Load h4
    refine V_y (Y_loadA h30 Tryd.isAgg34 Tryd.sizeOf34 rfl) rfl rfl rfl ?_
    refine V_y (Y_move rfl) rfl rfl rfl ?_
    obtain ⟨x31, hx31, hm⟩ := Option.bind_eq_some_iff.1 hm
    refine V_call Tryd.call35 rfl rfl rfl rfl (staff_Load_enough_c w9 hA l n hx31) ?_
    rintro _ w33 ⟨rfl, hk34⟩
    have ht35 := Kp.tr hk34 hA hB
    replace hH := Hp.kp hH hk34
    replace h4 := El.tr h4 ht35
    replace hK := Tr.trans hK ht35
    replace hB := Nat.le_trans hB ht35.ex.size
    replace hA := ht35.new
    refine V_y (Y_not rfl) rfl rfl rfl ?_
    refine V_to (fun _ _ => rfl) ?_
    refine C_cond rfl (fun hc36 => ?_) (fun hc36 => ?_)
    · rw [if_pos hc36] at hm
      refine C_seq ?_
      refine C_region ?_
      refine V_buildSlice (l := ([1] : List Int)) (len := 1) Tryd.underlying57 Tryd.sizeOf3 Tryd.zeroValue3 rfl (by with_unfolding_all rfl) (by decide) (by decide) hA ⟨[.int .i64 1], _, rfl, rfl, rfl⟩ rfl rfl ?_
      intro v37 w38 hk40 h39
      have ht41 := Kp.tr hk40 hA hB
      replace hH := Hp.kp hH hk40
      replace h4 := El.tr h4 ht41
      replace hK := Tr.trans hK ht41
      replace hB := Nat.le_trans hB ht41.ex.size
      replace hA := ht41.new
      refine V_buildSlice (l := ([1] : List Int)) (len := 1) Tryd.underlying57 Tryd.sizeOf3 Tryd.zeroValue3 rfl (by with_unfolding_all rfl) (by decide) (by decide) hA ⟨[.int .i64 1], _, rfl, rfl, rfl⟩ rfl rfl ?_
      intro v42 w43 hk45 h44
      have ht46 := Kp.tr hk45 hA hB
      replace hH := Hp.kp hH hk45
      replace h4 := El.tr h4 ht46
      replace h39 := Sl.tr h39 ht46
      replace hK := Tr.trans hK ht46
      replace hB := Nat.le_trans hB ht46.ex.size
      replace hA := ht46.new
      refine V_y (Y_build (cells := #[v37, v42]) Tryd.underlying59 Tryd.zeroValue59 (Tryd_places59 _ Tryd.underlying59) rfl (by obtain ⟨a47, c48, e49, _⟩ := Sl.form h39; subst e49; obtain ⟨a50, c51, e52, _⟩ := Sl.form h44; subst e52; with_unfolding_all rfl)) rfl rfl rfl ?_
      have h58 : (v37).oneCell' = true := by obtain ⟨_, _, e, _⟩ := Sl.form h39; rw [e]; rfl
      have h61 : (v42).oneCell' = true := by obtain ⟨_, _, e, _⟩ := Sl.form h44; rw [e]; rfl
      refine V_storeC (off := 0) (ds := [v37, v42]) hH (i := 0) rfl Tryd.sizeOf59 rfl (Nat.le_of_ble_eq_true rfl) (by exact (List.forall_mem_cons.2 ⟨h58, (List.forall_mem_cons.2 ⟨h61, (fun _ h => nomatch h)⟩)⟩)) rfl hB hA rfl rfl ?_
      intro w53 hH54 ht55
      replace h4 := El.tr h4 ht55
      replace h39 := Sl.tr h39 ht55
      replace h44 := Sl.tr h44 ht55
      replace hK := Tr.trans hK ht55
      replace hB := Nat.le_trans hB ht55.ex.size
      replace hA := ht55.new
      replace hH : Hp w.heap.size A10 w53 (obC b7 [v37, v42] 59 :: []) := hH54
      refine V_to (fun _ _ => rfl) ?_
      obtain rfl := Option.some.inj hm
      refine C_ret ?_
      try simp only [↓inBlock_ret, ↓then_ret]
      exact retQ rfl (Res.l1 Tryd.results29 (RL.cell rfl (loadVar_agg (Hp.part (off := 0) (n := 2) (ds := [v37, v42]) hH (i := 0) rfl rfl) Tryd.isAgg59 Tryd.sizeOf59))) ⟨v37, v42, rfl, (Sl.out h39 hA0 hK), (Sl.out h44 hA0 hK), hK.kp⟩
    · rw [if_neg (nt hc36)] at hm
      refine C_skip_to (fun _ _ => rfl) ?_
      refine C_seq ?_
      refine C_region ?_
      obtain ⟨h62, _⟩ := El_staff_Load h4
      refine V_y (Y_loadA h62 Tryd.isAgg34 Tryd.sizeOf34 rfl) rfl rfl rfl ?_
      obtain ⟨x63, hx63, hm⟩ := Option.bind_eq_some_iff.1 hm
      refine V_call Tryd.call36 rfl rfl rfl rfl (staff_Load_offered_c w33 hA l hx63) ?_
      rintro _ w65 ⟨rfl, hk66⟩
      have ht67 := Kp.tr hk66 hA hB
      replace hH := Hp.kp hH hk66
      replace h4 := El.tr h4 ht67
      replace hK := Tr.trans hK ht67
      replace hB := Nat.le_trans hB ht67.ex.size
      replace hA := ht67.new
      refine V_y (Y_move rfl) rfl rfl rfl ?_
      refine V_y (Y_extract rfl rfl) rfl rfl rfl ?_
      refine V_y (Y_extract rfl rfl) rfl rfl rfl ?_
      refine V_y (Y_assign rfl) rfl rfl rfl ?_
      refine V_y (Y_assign rfl) rfl rfl rfl ?_
      refine V_to (fun _ _ => rfl) ?_
      refine C_seq ?_
      refine C_region ?_
      obtain ⟨h68, _⟩ := El_staff_Load h4
      refine V_y (Y_loadA h68 Tryd.isAgg34 Tryd.sizeOf34 rfl) rfl rfl rfl ?_
      refine V_y (Y_move rfl) rfl rfl rfl ?_
      obtain ⟨x69, hx69, hm⟩ := Option.bind_eq_some_iff.1 hm
      refine V_call Tryd.call38 rfl rfl rfl rfl (staff_Load_blocked_c w65 hA l n hx69) ?_
      rintro _ w74 ⟨v70, v72, rfl, h71, h73, hk75⟩
      have ht76 := Kp.tr hk75 hA hB
      replace hH := Hp.kp hH hk75
      replace h4 := El.tr h4 ht76
      replace hK := Tr.trans hK ht76
      replace hB := Nat.le_trans hB ht76.ex.size
      replace hA := ht76.new
      refine V_alloc Tryd.zeroValue59 rfl ?_
      intro b77 w78 h79
      have h84 : (v70).oneCell' = true := by obtain ⟨_, _, e, _⟩ := Sl.form h71; rw [e]; rfl
      have h87 : (v72).oneCell' = true := by obtain ⟨_, _, e, _⟩ := Sl.form h73; rw [e]; rfl
      refine V_storeNew h79 Tryd.sizeOf59 rfl rfl rfl rfl (by exact (List.forall_mem_cons.2 ⟨h84, (List.forall_mem_cons.2 ⟨h87, (fun _ h => nomatch h)⟩)⟩)) ?_
      intro w80 h81
      have hk89 := h81.kp
      have h88 : El (α := staff_ratio) A10 w80 b77 0 x69 := h81.el hA ⟨[v70], _, rfl, ⟨_, rfl, h71⟩, ⟨_, rfl, h73⟩⟩
      have ht90 := Kp.tr hk89 hA hB
      replace hH := Hp.kp hH hk89
      replace h4 := El.tr h4 ht90
      replace h71 := Sl.tr h71 ht90
      replace h73 := Sl.tr h73 ht90
      replace hK := Tr.trans hK ht90
      replace hB := Nat.le_trans hB ht90.ex.size
      replace hA := ht90.new
      refine V_to (fun _ _ => rfl) ?_
      refine C_seq ?_
      refine C_region_ch A10 21 [(1, 0), (1, 1), (1, 2), (1, 3), (1, 4), (1, 6), (1, 7), (1, 8), (1, 9), (1, 10), (1, 11), (1, 12), (1, 14), (1, 15), (1, 16), (2, 5), (2, 13), (2, 17), (2, 18), (1, 19), (4, 20)] Tryd_mixed (by kernel_rfl) (fun w91 hk92 => ?_)
      have ht93 := Kp.tr hk92 hA hB
      replace hH := Hp.kp hH hk92
      replace h88 := El.tr h88 ht93
      replace hK := Tr.trans hK ht93
      replace hB := Nat.le_trans hB ht93.ex.size
      replace hA := ht93.new
      refine CH_q2 rfl ?_
      have h94 := El_staff_ratio_0 h88
      refine VQ_y (fun w' hw' => Y_fieldAddr Tryd.underlying59 rfl Tryd.sizeOf57 (by decide) rfl) rfl rfl rfl ?_
      refine VQ_CH ?_
      refine CH_q2 rfl ?_
      obtain ⟨v95, h96, h97⟩ := El.list h94
      refine VQ_y (fun w' hw' => Y_load ((World.cell?_of_block (hw'.2 _ h94.2.1 h94.1)).trans h96) Tryd.isAgg57 rfl) rfl rfl rfl ?_
      refine VQ_CH ?_
      refine CH_q2 rfl ?_
      refine VQ_y (fun w' hw' => Y_move rfl) rfl rfl rfl ?_
      refine VQ_CH ?_
      refine CH_q2 rfl ?_
      refine VQ_y (fun w' hw' => Y_move rfl) rfl rfl rfl ?_
      refine VQ_CH ?_
      refine CH_q2 rfl ?_
      refine VQ_y (fun w' hw' => Y_mulI rfl rfl) rfl rfl rfl ?_
      refine VQ_CH ?_
      refine CH_q2 rfl ?_
      have h98 := El_staff_ratio_1 h88
      refine VQ_y (fun w' hw' => Y_fieldAddr Tryd.underlying59 rfl Tryd.sizeOf57 (by decide) rfl) rfl rfl rfl ?_
      refine VQ_CH ?_
      refine CH_q2 rfl ?_
      obtain ⟨v99, h100, h101⟩ := El.list h98
      refine VQ_y (fun w' hw' => Y_load ((World.cell?_of_block (hw'.2 _ h98.2.1 h98.1)).trans h100) Tryd.isAgg57 rfl) rfl rfl rfl ?_
      refine VQ_CH ?_
      refine CH_q2 rfl ?_
      refine VQ_y (fun w' hw' => Y_move rfl) rfl rfl rfl ?_
      refine VQ_CH ?_
      refine CH_q2 rfl ?_
      refine VQ_y (fun w' hw' => Y_move rfl) rfl rfl rfl ?_
      refine VQ_CH ?_
      refine CH_q2 rfl ?_
      refine VQ_y (fun w' hw' => Y_mulI rfl rfl) rfl rfl rfl ?_
      refine VQ_CH ?_
      refine CH_q2 rfl ?_
      refine VQ_y (fun w' hw' => Y_move rfl) rfl rfl rfl ?_
      refine VQ_CH ?_
      refine CH_q2 rfl ?_
      refine VQ_y (fun w' hw' => Y_subI rfl rfl) rfl rfl rfl ?_
      refine VQ_CH ?_
      refine CH_q2 rfl ?_
      have h102 := El_staff_ratio_0 h88
      refine VQ_y (fun w' hw' => Y_fieldAddr Tryd.underlying59 rfl Tryd.sizeOf57 (by decide) rfl) rfl rfl rfl ?_
      refine VQ_CH ?_
      refine CH_q2 rfl ?_
      obtain ⟨v103, h104, h105⟩ := El.list h102
      refine VQ_y (fun w' hw' => Y_load ((World.cell?_of_block (hw'.2 _ h102.2.1 h102.1)).trans h104) Tryd.isAgg57 rfl) rfl rfl rfl ?_
      refine VQ_CH ?_
      refine CH_q2 rfl ?_
      refine VQ_y (fun w' hw' => Y_move rfl) rfl rfl rfl ?_
      refine VQ_CH ?_
      refine CH_l1 (k := 0) rfl ?_
      obtain ⟨x106, hx106, hm⟩ := Option.bind_eq_some_iff.1 hm
      refine V_call Tryd.call37 rfl rfl rfl rfl (staff_nat_small_c w91 hA x69.num v95 h97 (w64 (n * x63.2)) hx106) ?_
      rintro v107 w109 ⟨_, rfl, h108, hk110⟩
      have ht111 := Kp.tr hk110 hA hB
      replace hH := Hp.kp hH hk110
      replace h88 := El.tr h88 ht111
      replace h94 := El.tr h94 ht111
      replace h97 := Sl.tr h97 ht111
      replace h98 := El.tr h98 ht111
      replace h101 := Sl.tr h101 ht111
      replace h102 := El.tr h102 ht111
      replace h105 := Sl.tr h105 ht111
      replace hK := Tr.trans hK ht111
      replace hB := Nat.le_trans hB ht111.ex.size
      replace hA := ht111.new
      refine V_CH (hk110) ?_
      refine CH_l1 (k := 0) rfl ?_
      obtain ⟨x112, hx112, hm⟩ := Option.bind_eq_some_iff.1 hm
      refine V_call Tryd.call37 rfl rfl rfl rfl (staff_nat_small_c w109 hA x69.den v99 h101 (w64 ((w64 (n * x63.2)) - x63.1)) hx112) ?_
      rintro v113 w115 ⟨_, rfl, h114, hk116⟩
      have ht117 := Kp.tr hk116 hA hB
      replace hH := Hp.kp hH hk116
      replace h88 := El.tr h88 ht117
      replace h94 := El.tr h94 ht117
      replace h97 := Sl.tr h97 ht117
      replace h98 := El.tr h98 ht117
      replace h101 := Sl.tr h101 ht117
      replace h102 := El.tr h102 ht117
      replace h105 := Sl.tr h105 ht117
      replace h108 := Sl.tr h108 ht117
      replace hK := Tr.trans hK ht117
      replace hB := Nat.le_trans hB ht117.ex.size
      replace hA := ht117.new
      refine V_CH (hk116) ?_
      refine CH_l1 (k := 0) rfl ?_
      obtain ⟨x118, hx118, hm⟩ := Option.bind_eq_some_iff.1 hm
      refine V_call Tryd.call37 rfl rfl rfl rfl (staff_nat_small_c w115 hA x69.num v103 h105 x63.1 hx118) ?_
      rintro v119 w121 ⟨_, rfl, h120, hk122⟩
      have ht123 := Kp.tr hk122 hA hB
      replace hH := Hp.kp hH hk122
      replace h88 := El.tr h88 ht123
      replace h94 := El.tr h94 ht123
      replace h97 := Sl.tr h97 ht123
      replace h98 := El.tr h98 ht123
      replace h101 := Sl.tr h101 ht123
      replace h102 := El.tr h102 ht123
      replace h105 := Sl.tr h105 ht123
      replace h108 := Sl.tr h108 ht123
      replace h114 := Sl.tr h114 ht123
      replace hK := Tr.trans hK ht123
      replace hB := Nat.le_trans hB ht123.ex.size
      replace hA := ht123.new
      refine V_CH (hk122) ?_
      refine CH_l1 (k := 0) rfl ?_
      obtain ⟨x124, hx124, hm⟩ := Option.bind_eq_some_iff.1 hm
      refine V_call Tryd.call39 rfl rfl rfl rfl (staff_nat_plus_c w121 hA x112 v113 h114 x118 v119 h120 hx124) ?_
      rintro v125 w127 ⟨_, rfl, h126, hk128⟩
      obtain ⟨A129, ht130, hH131⟩ := Hp.addOwnd hH hB hA hk128 h126
      replace h88 := El.tr h88 ht130
      replace h94 := El.tr h94 ht130
      replace h97 := Sl.tr h97 ht130
      replace h98 := El.tr h98 ht130
      replace h101 := Sl.tr h101 ht130
      replace h102 := El.tr h102 ht130
      replace h105 := Sl.tr h105 ht130
      replace h108 := Sl.tr h108 ht130
      replace h114 := Sl.tr h114 ht130
      replace h120 := Sl.tr h120 ht130
      replace hK := Tr.trans hK ht130
      replace hB := Nat.le_trans hB ht130.ex.size
      replace hA := ht130.new
      replace hH : Hp w.heap.size A129 w127 (obS (α := Int) 3 v125 x124 :: obC b7 [.slice none 0 0, .slice none 0 0] 59 :: []) := hH131
      refine V_CH (hk128) ?_
      refine CH_q2 rfl ?_
      refine VQ_y (fun w' hw' => Y_build (cells := #[v107, v125]) Tryd.underlying59 Tryd.zeroValue59 (Tryd_places59 _ Tryd.underlying59) rfl (by obtain ⟨a132, c133, e134, _⟩ := Sl.form h108; subst e134; obtain ⟨a135, c136, e137, _⟩ := Hp.form (α := Int) (e := 3) (v := v125) (l := x124) hH (i := 0) rfl; subst e137; with_unfolding_all rfl)) rfl rfl rfl ?_
      refine VQ_CH ?_
      refine CH_l1 (k := 2) rfl ?_
      obtain ⟨A138, ht139, h140, hH141⟩ := Hp.freeze (α := Int) (v := v125) (l := x124) hH (i := 0) rfl hA
      replace h88 := El.tr h88 ht139
      replace h94 := El.tr h94 ht139
      replace h97 := Sl.tr h97 ht139
      replace h98 := El.tr h98 ht139
      replace h101 := Sl.tr h101 ht139
      replace h102 := El.tr h102 ht139
      replace h105 := Sl.tr h105 ht139
      replace h108 := Sl.tr h108 ht139
      replace h114 := Sl.tr h114 ht139
      replace h120 := Sl.tr h120 ht139
      replace hK := Tr.trans hK ht139
      replace hB := Nat.le_trans hB ht139.ex.size
      replace hA := ht139.new
      replace hH : Hp w.heap.size A138 w127 (obC b7 [.slice none 0 0, .slice none 0 0] 59 :: []) := hH141
      have h148 : (v107).oneCell' = true := by obtain ⟨_, _, e, _⟩ := Sl.form h108; rw [e]; rfl
      have h151 : (v125).oneCell' = true := by obtain ⟨_, _, e, _⟩ := Sl.form h140; rw [e]; rfl
      refine V_storeC (off := 0) (ds := [v107, v125]) hH (i := 0) rfl Tryd.sizeOf59 rfl (Nat.le_of_ble_eq_true rfl) (by exact (List.forall_mem_cons.2 ⟨h148, (List.forall_mem_cons.2 ⟨h151, (fun _ h => nomatch h)⟩)⟩)) rfl hB hA rfl rfl ?_
      intro w143 hH144 ht145
      replace h88 := El.tr h88 ht145
      replace h94 := El.tr h94 ht145
      replace h97 := Sl.tr h97 ht145
      replace h98 := El.tr h98 ht145
      replace h101 := Sl.tr h101 ht145
      replace h102 := El.tr h102 ht145
      replace h105 := Sl.tr h105 ht145
      replace h108 := Sl.tr h108 ht145
      replace h114 := Sl.tr h114 ht145
      replace h120 := Sl.tr h120 ht145
      replace h140 := Sl.tr h140 ht145
      replace hK := Tr.trans hK ht145
      replace hB := Nat.le_trans hB ht145.ex.size
      replace hA := ht145.new
      replace hH : Hp w.heap.size A138 w143 (obC b7 [v107, v125] 59 :: []) := hH144
      refine V_CHw ?_
      refine CH_tail ?_
      show V _ _ _ _ [] _ _
      refine V_to (fun _ _ => rfl) ?_
      obtain rfl := Option.some.inj hm
      refine C_ret ?_
      try simp only [↓inBlock_ret, ↓then_ret]
      exact retQ rfl (Res.l1 Tryd.results29 (RL.cell rfl (loadVar_agg (Hp.part (off := 0) (n := 2) (ds := [v107, v125]) hH (i := 0) rfl rfl) Tryd.isAgg59 Tryd.sizeOf59))) ⟨v107, v125, rfl, (Sl.out h108 hA0 hK), (Sl.out h140 hA0 hK), hK.kp⟩

set_option maxRecDepth 4000 in
set_option maxHeartbeats 4000000 in
theorem staff_Load_meanWait_c (w : World) {A : Nat → Prop} (hA : ∀ b, w.heap.size ≤ b → A b) (l : staff_Load) (n : Int) {r : (staff_ratio × Bool)} (hm : staff_Load_meanWait l n = some r) : Ret Tryd.prog 28 #[.agg #[.int .i64 l.calls, .int .i64 l.length, .int .i64 l.span], .int .i64 n] w fun v w' => ∃ s0 s1, v = .tuple #[.agg #[s0, s1], .bool r.2] ∧ Sl A w' s0 r.1.num ∧ Sl A w' s1 r.1.den ∧ Kp w w' := by
  unfold staff_Load_meanWait at hm
  refine enter Tryd.func28 rfl Tryd.ntmps28 rfl ?_
  have hA0 := hA
  have hB := Nat.le_refl w.heap.size
  have hK : Tr w.heap.size A w A w := Tr.refl hA
  have hH : Hp w.heap.size A w [] := Hp.nil
  refine C_seq ?_
  refine C_region ?_
  refine V_box rfl rfl ?_
  intro b1 w2 h3
  have hk5 := h3.kp
  have h4 : El (α := staff_Load) A w2 b1 0 l := h3.el hA ⟨[.int .i64 l.calls], _, rfl, rfl, ⟨[.int .i64 l.length], _, rfl, rfl, rfl⟩⟩
  have ht6 := Kp.tr hk5 hA hB
  replace hH := Hp.kp hH hk5
  replace hK := Tr.trans hK ht6
  replace hB := Nat.le_trans hB ht6.ex.size
  replace hA := ht6.new
  refine V_allocH (B := w.heap.size) hH Tryd.zeroValue59 hB hA rfl ?_
  intro b7 w9 A10 hH11 ht12
  replace h4 := El.tr h4 ht12
  replace hK := Tr.trans hK ht12
  replace hB := Nat.le_trans hB ht12.ex.size
  replace hA := ht12.new
  replace hH : Hp w.heap.size A10 w9 (obC b7 [.slice none 0 0, .slice none 0 0] 59 :: []) := hH11
  refine V_y (Y_assign rfl) rfl rfl rfl ?_
  refine V_to (fun _ _ => rfl) ?_
  refine C_seq ?_
  refine C_seq ?_
  refine C_region ?_
  have h13 := El_staff_Load_0 h4
  refine V_y (Y_fieldAddr Tryd.underlying34 rfl Tryd.sizeOf3 (by decide) rfl) rfl rfl rfl ?_
  refine V_y (Y_load (El.int h13) Tryd.isAgg3 rfl) rfl rfl rfl ?_
  refine V_y (Y_eql rfl rfl) rfl rfl rfl ?_
  refine V_to (fun _ _ => rfl) ?_
  refine C_cond rfl (fun hc14 => ?_) (fun hc14 => ?_)
  · rw [if_pos hc14] at hm
    refine C_seq ?_
    refine C_region ?_
    refine V_buildSlice (l := ([1] : List Int)) (len := 1) Tryd.underlying57 Tryd.sizeOf3 Tryd.zeroValue3 rfl (by with_unfolding_all rfl) (by decide) (by decide) hA ⟨[.int .i64 1], _, rfl, rfl, rfl⟩ rfl rfl ?_
    intro v15 w17 hk19 h18
    have ht20 := Kp.tr hk19 hA hB
    replace hH := Hp.kp hH hk19
    replace h4 := El.tr h4 ht20
    replace hK := Tr.trans hK ht20
    replace hB := Nat.le_trans hB ht20.ex.size
    replace hA := ht20.new
    refine V_y (Y_build (cells := #[.slice none 0 0, v15]) Tryd.underlying59 Tryd.zeroValue59 (Tryd_places59 _ Tryd.underlying59) rfl (by obtain ⟨a21, c22, e23, _⟩ := Sl.form h18; subst e23; with_unfolding_all rfl)) rfl rfl rfl ?_
    have h29 : (v15).oneCell' = true := by obtain ⟨_, _, e, _⟩ := Sl.form h18; rw [e]; rfl
    refine V_storeC (off := 0) (ds := [.slice none 0 0, v15]) hH (i := 0) rfl Tryd.sizeOf59 rfl (Nat.le_of_ble_eq_true rfl) (by exact (List.forall_mem_cons.2 ⟨rfl, (List.forall_mem_cons.2 ⟨h29, (fun _ h => nomatch h)⟩)⟩)) rfl hB hA rfl rfl ?_
    intro w24 hH25 ht26
    replace h4 := El.tr h4 ht26
    replace h18 := Sl.tr h18 ht26
    replace hK := Tr.trans hK ht26
    replace hB := Nat.le_trans hB ht26.ex.size
    replace hA := ht26.new
    replace hH : Hp w.heap.size A10 w24 (obC b7 [.slice none 0 0, v15] 59 :: []) := hH25
    refine V_y (Y_assign rfl) rfl rfl rfl ?_
    refine V_to (fun _ _ => rfl) ?_
    obtain rfl := Option.some.inj hm
    refine C_ret ?_
    try simp only [↓inBlock_ret, ↓then_ret]
    exact retQ rfl (Res.l2 Tryd.results28 (RL.cell rfl (loadVar_agg (Hp.part (off := 0) (n := 2) (ds := [.slice none 0 0, v15]) hH (i := 0) rfl rfl) Tryd.isAgg59 Tryd.sizeOf59)) (RL.tmp rfl)) ⟨.slice none 0 0, v15, rfl, Sl.nil, (Sl.out h18 hA0 hK), hK.kp⟩
  · rw [if_neg (nt hc14)] at hm
    refine C_skip_to (fun _ _ => rfl) ?_
    refine C_seq ?_
    refine C_seq ?_
    refine C_region ?_
    obtain ⟨h30, _⟩ := El_staff_Load h4
    refine V_y (Y_loadA h30 Tryd.isAgg34 Tryd.sizeOf34 rfl) rfl rfl rfl ?_
    refine V_y (Y_move rfl) rfl rfl rfl ?_
    obtain ⟨x31, hx31, hm⟩ := Option.bind_eq_some_iff.1 hm
    refine V_call Tryd.call35 rfl rfl rfl rfl (staff_Load_enough_c w9 hA l n hx31) ?_
    rintro _ w33 ⟨rfl, hk34⟩
    have ht35 := Kp.tr hk34 hA hB
    replace hH := Hp.kp hH hk34
    replace h4 := El.tr h4 ht35
    replace hK := Tr.trans hK ht35
    replace hB := Nat.le_trans hB ht35.ex.size
    replace hA := ht35.new
    refine V_y (Y_not rfl) rfl rfl rfl ?_
    refine V_to (fun _ _ => rfl) ?_
    refine C_cond rfl (fun hc36 => ?_) (fun hc36 => ?_)
    · rw [if_pos hc36] at hm
      refine C_seq ?_
      refine C_region ?_
      refine V_y (Y_build Tryd.underlying59 Tryd.zeroValue59 (Tryd_places59 _ Tryd.underlying59) rfl (by with_unfolding_all rfl)) rfl rfl rfl ?_
      refine V_storeC (off := 0) (ds := [.slice none 0 0, .slice none 0 0]) hH (i := 0) rfl Tryd.sizeOf59 rfl (Nat.le_of_ble_eq_true rfl) (by exact (List.forall_mem_cons.2 ⟨rfl, (List.forall_mem_cons.2 ⟨rfl, (fun _ h => nomatch h)⟩)⟩)) rfl hB hA rfl rfl ?_
      intro w37 hH38 ht39
      replace h4 := El.tr h4 ht39
      replace hK := Tr.trans hK ht39
      replace hB := Nat.le_trans hB ht39.ex.size
      replace hA := ht39.new
      replace hH : Hp w.heap.size A10 w37 (obC b7 [.slice none 0 0, .slice none 0 0] 59 :: []) := hH38
      refine V_y (Y_assign rfl) rfl rfl rfl ?_
      refine V_to (fun _ _ => rfl) ?_
      obtain rfl := Option.some.inj hm
      refine C_ret ?_
      try simp only [↓inBlock_ret, ↓then_ret]
      exact retQ rfl (Res.l2 Tryd.results28 (RL.cell rfl (loadVar_agg (Hp.part (off := 0) (n := 2) (ds := [.slice none 0 0, .slice none 0 0]) hH (i := 0) rfl rfl) Tryd.isAgg59 Tryd.sizeOf59)) (RL.tmp rfl)) ⟨.slice none 0 0, .slice none 0 0, rfl, Sl.nil, Sl.nil, hK.kp⟩
    · rw [if_neg (nt hc36)] at hm
      refine C_skip_to (fun _ _ => rfl) ?_
      refine C_seq ?_
      refine C_region ?_
      obtain ⟨h40, _⟩ := El_staff_Load h4
      refine V_y (Y_loadA h40 Tryd.isAgg34 Tryd.sizeOf34 rfl) rfl rfl rfl ?_
      obtain ⟨x41, hx41, hm⟩ := Option.bind_eq_some_iff.1 hm
      refine V_call Tryd.call36 rfl rfl rfl rfl (staff_Load_offered_c w33 hA l hx41) ?_
      rintro _ w42 ⟨rfl, hk43⟩
      have ht44 := Kp.tr hk43 hA hB
      replace hH := Hp.kp hH hk43
      replace h4 := El.tr h4 ht44
      replace hK := Tr.trans hK ht44
      replace hB := Nat.le_trans hB ht44.ex.size
      replace hA := ht44.new
      refine V_y (Y_move rfl) rfl rfl rfl ?_
      refine V_y (Y_extract rfl rfl) rfl rfl rfl ?_
      refine V_y (Y_extract rfl rfl) rfl rfl rfl ?_
      refine V_y (Y_assign rfl) rfl rfl rfl ?_
      refine V_y (Y_assign rfl) rfl rfl rfl ?_
      refine V_to (fun _ _ => rfl) ?_
      refine C_seq ?_
      refine C_region ?_
      obtain ⟨h45, _⟩ := El_staff_Load h4
      refine V_y (Y_loadA h45 Tryd.isAgg34 Tryd.sizeOf34 rfl) rfl rfl rfl ?_
      refine V_y (Y_move rfl) rfl rfl rfl ?_
      obtain ⟨x46, hx46, hm⟩ := Option.bind_eq_some_iff.1 hm
      refine V_call Tryd.call29 rfl rfl rfl rfl (staff_Load_waits_c w42 hA l n hx46) ?_
      rintro _ w51 ⟨v47, v49, rfl, h48, h50, hk52⟩
      have ht53 := Kp.tr hk52 hA hB
      replace hH := Hp.kp hH hk52
      replace h4 := El.tr h4 ht53
      replace hK := Tr.trans hK ht53
      replace hB := Nat.le_trans hB ht53.ex.size
      replace hA := ht53.new
      refine V_alloc Tryd.zeroValue59 rfl ?_
      intro b54 w55 h56
      have h61 : (v47).oneCell' = true := by obtain ⟨_, _, e, _⟩ := Sl.form h48; rw [e]; rfl
      have h64 : (v49).oneCell' = true := by obtain ⟨_, _, e, _⟩ := Sl.form h50; rw [e]; rfl
      refine V_storeNew h56 Tryd.sizeOf59 rfl rfl rfl rfl (by exact (List.forall_mem_cons.2 ⟨h61, (List.forall_mem_cons.2 ⟨h64, (fun _ h => nomatch h)⟩)⟩)) ?_
      intro w57 h58
      have hk66 := h58.kp
      have h65 : El (α := staff_ratio) A10 w57 b54 0 x46 := h58.el hA ⟨[v47], _, rfl, ⟨_, rfl, h48⟩, ⟨_, rfl, h50⟩⟩
      have ht67 := Kp.tr hk66 hA hB
      replace hH := Hp.kp hH hk66
      replace h4 := El.tr h4 ht67
      replace h48 := Sl.tr h48 ht67
      replace h50 := Sl.tr h50 ht67
      replace hK := Tr.trans hK ht67
      replace hB := Nat.le_trans hB ht67.ex.size
      replace hA := ht67.new
      refine V_to (fun _ _ => rfl) ?_
      refine C_seq ?_
      refine C_region_ch A10 18 [(1, 0), (1, 1), (1, 2), (1, 3), (1, 4), (1, 5), (1, 7), (1, 8), (1, 9), (1, 10), (1, 11), (1, 12), (1, 13), (2, 6), (2, 14), (1, 15), (4, 16), (1, 17)] Tryd_mixed (by kernel_rfl) (fun w68 hk69 => ?_)
      have ht70 := Kp.tr hk69 hA hB
      replace hH := Hp.kp hH hk69
      replace h4 := El.tr h4 ht70
      replace h65 := El.tr h65 ht70
      replace hK := Tr.trans hK ht70
      replace hB := Nat.le_trans hB ht70.ex.size
      replace hA := ht70.new
      refine CH_q2 rfl ?_
      have h71 := El_staff_ratio_0 h65
      refine VQ_y (fun w' hw' => Y_fieldAddr Tryd.underlying59 rfl Tryd.sizeOf57 (by decide) rfl) rfl rfl rfl ?_
      refine VQ_CH ?_
      refine CH_q2 rfl ?_
      obtain ⟨v72, h73, h74⟩ := El.list h71
      refine VQ_y (fun w' hw' => Y_load ((World.cell?_of_block (hw'.2 _ h71.2.1 h71.1)).trans h73) Tryd.isAgg57 rfl) rfl rfl rfl ?_
      refine VQ_CH ?_
      refine CH_q2 rfl ?_
      have h75 := El_staff_Load_1 h4
      refine VQ_y (fun w' hw' => Y_fieldAddr Tryd.underlying34 rfl Tryd.sizeOf3 (by decide) rfl) rfl rfl rfl ?_
      refine VQ_CH ?_
      refine CH_q2 rfl ?_
      refine VQ_y (fun w' hw' => Y_load (El.int (El.keep h75 (XA.ex hw'))) Tryd.isAgg3 rfl) rfl rfl rfl ?_
      refine VQ_CH ?_
      refine CH_q2 rfl ?_
      refine VQ_y (fun w' hw' => Y_move rfl) rfl rfl rfl ?_
      refine VQ_CH ?_
      refine CH_q2 rfl ?_
      refine VQ_y (fun w' hw' => Y_mulI rfl rfl) rfl rfl rfl ?_
      refine VQ_CH ?_
      refine CH_q2 rfl ?_
      have h76 := El_staff_ratio_1 h65
      refine VQ_y (fun w' hw' => Y_fieldAddr Tryd.underlying59 rfl Tryd.sizeOf57 (by decide) rfl) rfl rfl rfl ?_
      refine VQ_CH ?_
      refine CH_q2 rfl ?_
      obtain ⟨v77, h78, h79⟩ := El.list h76
      refine VQ_y (fun w' hw' => Y_load ((World.cell?_of_block (hw'.2 _ h76.2.1 h76.1)).trans h78) Tryd.isAgg57 rfl) rfl rfl rfl ?_
      refine VQ_CH ?_
      refine CH_q2 rfl ?_
      refine VQ_y (fun w' hw' => Y_move rfl) rfl rfl rfl ?_
      refine VQ_CH ?_
      refine CH_q2 rfl ?_
      refine VQ_y (fun w' hw' => Y_move rfl) rfl rfl rfl ?_
      refine VQ_CH ?_
      refine CH_q2 rfl ?_
      refine VQ_y (fun w' hw' => Y_mulI rfl rfl) rfl rfl rfl ?_
      refine VQ_CH ?_
      refine CH_q2 rfl ?_
      refine VQ_y (fun w' hw' => Y_move rfl) rfl rfl rfl ?_
      refine VQ_CH ?_
      refine CH_q2 rfl ?_
      refine VQ_y (fun w' hw' => Y_subI rfl rfl) rfl rfl rfl ?_
      refine VQ_CH ?_
      refine CH_l1 (k := 0) rfl ?_
      obtain ⟨x80, hx80, hm⟩ := Option.bind_eq_some_iff.1 hm
      refine V_call Tryd.call37 rfl rfl rfl rfl (staff_nat_small_c w68 hA x46.num v72 h74 (w64 (l.length * x41.2)) hx80) ?_
      rintro v81 w83 ⟨_, rfl, h82, hk84⟩
      have ht85 := Kp.tr hk84 hA hB
      replace hH := Hp.kp hH hk84
      replace h4 := El.tr h4 ht85
      replace h65 := El.tr h65 ht85
      replace h71 := El.tr h71 ht85
      replace h74 := Sl.tr h74 ht85
      replace h75 := El.tr h75 ht85
      replace h76 := El.tr h76 ht85
      replace h79 := Sl.tr h79 ht85
      replace hK := Tr.trans hK ht85
      replace hB := Nat.le_trans hB ht85.ex.size
      replace hA := ht85.new
      refine V_CH (hk84) ?_
      refine CH_l1 (k := 0) rfl ?_
      obtain ⟨x86, hx86, hm⟩ := Option.bind_eq_some_iff.1 hm
      refine V_call Tryd.call37 rfl rfl rfl rfl (staff_nat_small_c w83 hA x46.den v77 h79 (w64 ((w64 (n * x41.2)) - x41.1)) hx86) ?_
      rintro v87 w89 ⟨_, rfl, h88, hk90⟩
      have ht91 := Kp.tr hk90 hA hB
      replace hH := Hp.kp hH hk90
      replace h4 := El.tr h4 ht91
      replace h65 := El.tr h65 ht91
      replace h71 := El.tr h71 ht91
      replace h74 := Sl.tr h74 ht91
      replace h75 := El.tr h75 ht91
      replace h76 := El.tr h76 ht91
      replace h79 := Sl.tr h79 ht91
      replace h82 := Sl.tr h82 ht91
      replace hK := Tr.trans hK ht91
      replace hB := Nat.le_trans hB ht91.ex.size
      replace hA := ht91.new
      refine V_CH (hk90) ?_
      refine CH_q2 rfl ?_
      refine VQ_y (fun w' hw' => Y_build (cells := #[v81, v87]) Tryd.underlying59 Tryd.zeroValue59 (Tryd_places59 _ Tryd.underlying59) rfl (by obtain ⟨a92, c93, e94, _⟩ := Sl.form h82; subst e94; obtain ⟨a95, c96, e97, _⟩ := Sl.form h88; subst e97; with_unfolding_all rfl)) rfl rfl rfl ?_
      refine VQ_CH ?_
      refine CH_l1 (k := 2) rfl ?_
      have h103 : (v81).oneCell' = true := by obtain ⟨_, _, e, _⟩ := Sl.form h82; rw [e]; rfl
      have h106 : (v87).oneCell' = true := by obtain ⟨_, _, e, _⟩ := Sl.form h88; rw [e]; rfl
      refine V_storeC (off := 0) (ds := [v81, v87]) hH (i := 0) rfl Tryd.sizeOf59 rfl (Nat.le_of_ble_eq_true rfl) (by exact (List.forall_mem_cons.2 ⟨h103, (List.forall_mem_cons.2 ⟨h106, (fun _ h => nomatch h)⟩)⟩)) rfl hB hA rfl rfl ?_
      intro w98 hH99 ht100
      replace h4 := El.tr h4 ht100
      replace h65 := El.tr h65 ht100
      replace h71 := El.tr h71 ht100
      replace h74 := Sl.tr h74 ht100
      replace h75 := El.tr h75 ht100
      replace h76 := El.tr h76 ht100
      replace h79 := Sl.tr h79 ht100
      replace h82 := Sl.tr h82 ht100
      replace h88 := Sl.tr h88 ht100
      replace hK := Tr.trans hK ht100
      replace hB := Nat.le_trans hB ht100.ex.size
      replace hA := ht100.new
      replace hH : Hp w.heap.size A10 w98 (obC b7 [v81, v87] 59 :: []) := hH99
      refine V_CHw ?_
      refine CH_q2 rfl ?_
      refine VQ_y (fun w' hw' => Y_assign rfl) rfl rfl rfl ?_
      refine VQ_CH ?_
      refine CH_tail ?_
      show V _ _ _ _ [] _ _
      refine V_to (fun _ _ => rfl) ?_
      obtain rfl := Option.some.inj hm
      refine C_ret ?_
      try simp only [↓inBlock_ret, ↓then_ret]
      exact retQ rfl (Res.l2 Tryd.results28 (RL.cell rfl (loadVar_agg (Hp.part (off := 0) (n := 2) (ds := [v81, v87]) hH (i := 0) rfl rfl) Tryd.isAgg59 Tryd.sizeOf59)) (RL.tmp rfl)) ⟨v81, v87, rfl, (Sl.out h82 hA0 hK), (Sl.out h88 hA0 hK), hK.kp⟩

set_option maxRecDepth 4000 in
set_option maxHeartbeats 4000000 in
theorem staff_natOf_c (w : World) {A : Nat → Prop} (hA : ∀ b, w.heap.size ≤ b → A b) (n : Int) {r : (List Int)} (hm : staff_natOf n = some r) : Ret Tryd.prog 23 #[.int .i64 n] w fun v w' => ∃ s0, v = s0 ∧ Ownd 3 w w' s0 r ∧ Kp w w' := by
  unfold staff_natOf at hm
  refine enter Tryd.func23 rfl Tryd.ntmps23 rfl ?_
  have hA0 := hA
  have hB := Nat.le_refl w.heap.size
  have hK : Tr w.heap.size A w A w := Tr.refl hA
  have hH : Hp w.heap.size A w [] := Hp.nil
  refine C_seq ?_
  refine C_region ?_
  refine V_y (Y_assign rfl) rfl rfl rfl ?_
  refine V_to (fun _ _ => rfl) ?_
  refine C_seq ?_
  refine C_region ?_
  refine V_y (Y_assign rfl) rfl rfl rfl ?_
  refine V_to (fun _ _ => rfl) ?_
  refine C_seq ?_
  replace hH : Hp w.heap.size A w (obS (α := Int) 3 (.slice none 0 0) ([] : (List Int)) :: []) := Hp.addNil (α := Int) (e := 3) hH
  obtain ⟨o1, ho1, hm⟩ := Option.bind_eq_some_iff.1 hm
  refine C_cutG (ι := ((Int × (List Int)) × Value × (Nat → Prop))) (fun ⟨s2, v8, A10⟩ => [(3, v8)]) (fun ⟨s2, v8, A10⟩ => fun w' => o1 = .fin s2 ∧ Hp w.heap.size A10 w' (obS (α := Int) 3 v8 s2.2 :: []) ∧ Tr w.heap.size A w A10 w') ?_ ?_
  · refine C_block ?_
    refine C_while ho1 (fun s12 a w' => ∃ i : (Value × (Nat → Prop)), Has ⟨14, [], none⟩ a ([(0, .int .i64 s12.1), (3, i.1)]) ∧ Hp w.heap.size i.2 w' (obS (α := Int) 3 i.1 s12.2 :: []) ∧ Tr w.heap.size A w i.2 w') (fun a ha => ⟨(.slice none 0 0, A), ha.sub ⟨rfl, rfl, trivial⟩, ⟨hH, Tr.refl hA⟩⟩) ?_
    rintro K s12 a w13 ⟨⟨v14, A16⟩, ha39, hH17, hr3⟩ K24
    refine C_of ?_ ha39
    replace hK := Tr.trans hK hr3
    replace hB := Nat.le_trans hB hr3.ex.size
    replace hA := hr3.new
    replace hH : Hp w.heap.size A16 w13 (obS (α := Int) 3 v14 s12.2 :: []) := hH17
    obtain ⟨x18, h19, h20⟩ := K24
    refine C_seq ?_
    refine C_seq ?_
    refine C_region ?_
    refine V_y (Y_move rfl) rfl rfl rfl ?_
    refine V_y (Y_gtr rfl rfl) rfl rfl rfl ?_
    refine V_to (fun _ _ => rfl) ?_
    refine C_cond rfl (fun hc25 => ?_) (fun hc25 => ?_)
    · rw [if_pos hc25] at h19
      refine C_skip_to (fun _ _ => rfl) ?_
      refine C_block ?_
      refine C_seq ?_
      refine C_region ?_
      refine V_y (Y_move rfl) rfl rfl rfl ?_
      refine V_y (Y_move rfl) rfl rfl rfl ?_
      refine V_y (Y_rem (by rw [rem, if_neg (by decide)]) rfl rfl) rfl rfl rfl ?_
      refine V_buildSlice (l := ([Int.tmod s12.1 1000000000] : List Int)) (len := 1) Tryd.underlying57 Tryd.sizeOf3 Tryd.zeroValue3 rfl (by with_unfolding_all rfl) (by decide) (by decide) hA ⟨[.int .i64 (Int.tmod s12.1 1000000000)], _, rfl, rfl, rfl⟩ rfl rfl ?_
      intro v26 w27 hk29 h28
      have ht30 := Kp.tr hk29 hA hB
      replace hH := Hp.kp hH hk29
      replace hK := Tr.trans hK ht30
      replace hr3 := Tr.trans hr3 ht30
      replace hB := Nat.le_trans hB ht30.ex.size
      replace hA := ht30.new
      obtain ⟨x31, hx31, h19⟩ := Option.bind_eq_some_iff.1 h19
      refine V_appendH (e := 3) (v := v14) (l := s12.2) (ti := Tryd.t3) (bytes := 8) (lim := 17592186044416) hH (i := 0) rfl h28 hx31 Tryd.underlying57 Tryd_info3 rfl rfl rfl rfl (by decide) (by decide) (by decide) hB hA rfl rfl rfl ?_
      intro v32 w33 A34 hH35 ht36
      replace h28 := Sl.tr h28 ht36
      replace hK := Tr.trans hK ht36
      replace hr3 := Tr.trans hr3 ht36
      replace hB := Nat.le_trans hB ht36.ex.size
      replace hA := ht36.new
      replace hH : Hp w.heap.size A34 w33 (obS (α := Int) 3 v32 x31 :: []) := hH35
      refine V_y (Y_assign rfl) rfl rfl rfl ?_
      refine V_to (fun _ _ => rfl) ?_
      refine C_region ?_
      refine V_y (Y_move rfl) rfl rfl rfl ?_
      refine V_y (Y_quo (by rw [quo, if_neg (by decide)]) rfl rfl) rfl rfl rfl ?_
      refine V_y (Y_assign rfl) rfl rfl rfl ?_
      obtain rfl := Option.some.inj h19
      refine V_end (fun a ha37 => ?_)
      exact ⟨(w64 (Int.tdiv s12.1 1000000000), x31), h20, ⟨(v32, A34), ha37.sub ⟨rfl, rfl, trivial⟩, ⟨hH, hr3⟩⟩⟩
    · rw [if_neg (nt hc25)] at h19
      obtain rfl := Option.some.inj h19
      refine C_exit (fun a ha38 => ?_)
      exact ⟨((s12.1, s12.2), v14, A16), ha38.sub ⟨rfl, trivial⟩, ⟨h20.symm, hH, hr3⟩⟩
  rintro ⟨s2, v8, A10⟩ w5 ⟨rfl, hH11, hk6⟩ a ha7
  rw [Lp.andThen_fin] at hm
  replace hK := Tr.trans hK hk6
  replace hB := Nat.le_trans hB hk6.ex.size
  replace hA := hk6.new
  replace hH : Hp w.heap.size A10 w5 (obS (α := Int) 3 v8 s2.2 :: []) := hH11
  refine C_at (n := ⟨14, [], none⟩) (fun _ _ => rfl) ?_ ha7
  refine C_seq ?_
  refine C_region ?_
  refine V_y (Y_move rfl) rfl rfl rfl ?_
  refine V_y (Y_assign rfl) rfl rfl rfl ?_
  refine V_to (fun _ _ => rfl) ?_
  obtain rfl := Option.some.inj hm
  refine C_ret ?_
  try simp only [↓inBlock_ret, ↓then_ret]
  exact retQ rfl (Res.one Tryd.results23 rfl) ⟨v8, rfl, (Hp.ownd hH (i := 0) rfl), hK.kp⟩

set_option maxRecDepth 4000 in
set_option maxHeartbeats 4000000 in
theorem staff_nat_times_c (w : World) {A : Nat → Prop} (hA : ∀ b, w.heap.size ≤ b → A b) (a_ : (List Int)) (v_a_ : Value) (h_a_ : Sl A w v_a_ a_) (b : (List Int)) (v_b : Value) (h_b : Sl A w v_b b) {r : (List Int)} (hm : staff_nat_times a_ b = some r) : Ret Tryd.prog 40 #[v_a_, v_b] w fun v w' => ∃ s0, v = s0 ∧ Sl A w' s0 r ∧ Kp w w' := by
  unfold staff_nat_times at hm
  refine enter Tryd.func40 rfl Tryd.ntmps40 rfl ?_
  have hA0 := hA
  have hB := Nat.le_refl w.heap.size
  have hK : Tr w.heap.size A w A w := Tr.refl hA
  have hH : Hp w.heap.size A w [] := Hp.nil
  refine C_seq ?_
  refine C_region ?_
  refine V_y (Y_assign rfl) rfl rfl rfl ?_
  refine V_to (fun _ _ => rfl) ?_
  refine C_seq ?_
  refine C_seq ?_
  refine C_region ?_
  refine V_y (Y_move rfl) rfl rfl rfl ?_
  refine V_y (Y_lenSl h_a_ rfl Tryd.underlying57 rfl) rfl rfl rfl ?_
  refine V_y (Y_eql rfl rfl) rfl rfl rfl ?_
  refine V_y (Y_move rfl) rfl rfl rfl ?_
  refine V_cut 4 (fun _ : Unit => [(0, v_a_), (1, v_b), (21, .bool (((a_.length : Int) == 0) || ((b.length : Int) == 0)))]) (fun _ w' => w = w') ?_ ?_
  · simp only [List.take, List.drop]
    rcases Bool.eq_false_or_eq_true ((a_.length : Int) == 0) with hc5 | hc5
    · refine V_gn rfl rfl rfl hc5 rfl rfl rfl ?_
      refine V_gn rfl rfl rfl hc5 rfl rfl rfl ?_
      refine V_gn rfl rfl rfl hc5 rfl rfl rfl ?_
      refine V_y (Y_pick_te rfl hc5 rfl) rfl rfl rfl ?_
      exact V_end fun a ha => ⟨(), ha.sub ⟨rfl, rfl, (by rw [hc5]; rfl), trivial⟩, rfl⟩
    · refine V_ge rfl rfl rfl hc5 ?_
      refine V_y (Y_move rfl) rfl rfl rfl ?_
      refine V_ge rfl rfl rfl hc5 ?_
      refine V_y (Y_lenSl h_b rfl Tryd.underlying57 rfl) rfl rfl rfl ?_
      refine V_ge rfl rfl rfl hc5 ?_
      refine V_y (Y_eql rfl rfl) rfl rfl rfl ?_
      refine V_y (Y_pick_fe rfl hc5 rfl) rfl rfl rfl ?_
      exact V_end fun a ha => ⟨(), ha.sub ⟨rfl, rfl, (by rw [hc5]; rfl), trivial⟩, rfl⟩
  simp only [List.take, List.drop]
  rintro _ _ rfl
  refine V_to (fun _ _ => rfl) ?_
  refine C_cond rfl (fun hc7 => ?_) (fun hc7 => ?_)
  · rw [if_pos hc7] at hm
    refine C_seq ?_
    refine C_region ?_
    refine V_y (Y_assign rfl) rfl rfl rfl ?_
    refine V_to (fun _ _ => rfl) ?_
    obtain rfl := Option.some.inj hm
    refine C_ret ?_
    try simp only [↓inBlock_ret, ↓then_ret]
    exact retQ rfl (Res.one Tryd.results40 rfl) ⟨.slice none 0 0, rfl, Sl.nil, hK.kp⟩
  · rw [if_neg (nt hc7)] at hm
    refine C_skip_to (fun _ _ => rfl) ?_
    refine C_seq ?_
    refine C_region ?_
    refine V_y (Y_move rfl) rfl rfl rfl ?_
    refine V_y (Y_lenSl h_a_ rfl Tryd.underlying57 rfl) rfl rfl rfl ?_
    refine V_y (Y_move rfl) rfl rfl rfl ?_
    refine V_y (Y_lenSl h_b rfl Tryd.underlying57 rfl) rfl rfl rfl ?_
    refine V_y (Y_addI rfl rfl) rfl rfl rfl ?_
    obtain ⟨x8, hx8, hm⟩ := Option.bind_eq_some_iff.1 hm
    refine V_makeH (e := 3) (ti := Tryd.t3) hH hx8 (fun _ _ => rfl) Tryd.underlying57 Tryd_info3 rfl rfl rfl (by decide) (by decide) hB hA rfl rfl rfl ?_
    intro v9 w10 A11 hH12 ht13
    replace h_a_ := Sl.tr h_a_ ht13
    replace h_b := Sl.tr h_b ht13
    replace hK := Tr.trans hK ht13
    replace hB := Nat.le_trans hB ht13.ex.size
    replace hA := ht13.new
    replace hH : Hp w.heap.size A11 w10 (obS (α := Int) 3 v9 x8 :: []) := hH12
    refine V_y (Y_assign rfl) rfl rfl rfl ?_
    refine V_to (fun _ _ => rfl) ?_
    refine C_seq ?_
    refine C_seq ?_
    refine C_region ?_
    refine V_y (Y_move rfl) rfl rfl rfl ?_
    refine V_y (Y_lenSl h_a_ rfl Tryd.underlying57 rfl) rfl rfl rfl ?_
    refine V_y (Y_move rfl) rfl rfl rfl ?_
    refine V_to (fun _ _ => rfl) ?_
    have hn38 := Sl.le h_a_
    obtain ⟨o14, ho14, hm⟩ := Option.bind_eq_some_iff.1 hm
    refine C_cutG (ι := ((List Int) × Value × (Nat → Prop))) (fun ⟨s15, v21, A23⟩ => [(5, v21)]) (fun ⟨s15, v21, A23⟩ => fun w' => o14 = .fin s15 ∧ Hp w.heap.size A23 w' (obS (α := Int) 3 v21 s15 :: []) ∧ Tr w.heap.size A11 w10 A23 w') ?_ ?_
    · refine C_block ?_
      refine C_range ho14 (fun k17 s25 a w' => ∃ i : (Value × (Nat → Prop)), Has ⟨88, [], none⟩ a ([(1, v_b), (5, i.1), (28, v_a_), (29, .int .i64 (a_.length : Int)), (30, .int .i64 (k17 : Int))]) ∧ Hp w.heap.size i.2 w' (obS (α := Int) 3 i.1 s25 :: []) ∧ Tr w.heap.size A11 w10 i.2 w') (fun a ha => ⟨(v9, A11), ha.sub ⟨rfl, rfl, rfl, rfl, rfl, trivial⟩, ⟨hH, Tr.refl hA⟩⟩) ?_
      rintro K k17 s25 a w26 ⟨⟨v27, A29⟩, ha144, hH30, hr16⟩ hle34 K37 h36
      refine C_of ?_ ha144
      replace h_b := Sl.tr h_b hr16
      replace h_a_ := Sl.tr h_a_ hr16
      replace hK := Tr.trans hK hr16
      replace hB := Nat.le_trans hB hr16.ex.size
      replace hA := hr16.new
      replace hH : Hp w.heap.size A29 w26 (obS (α := Int) 3 v27 s25 :: []) := hH30
      refine C_seq (C_region (V_y (Y_lss rfl rfl) rfl rfl rfl (V_to (fun _ _ => rfl) ?_)))
      refine C_seq ?_
      refine C_cond rfl (fun hc39 => ?_) (fun hc39 => ?_)
      · have hlt35 := lt_of_dec hc39
        obtain ⟨x31, h32, h33⟩ := K37 hlt35
        refine C_skip_to (fun _ _ => rfl) ?_
        refine C_seq ?_
        obtain ⟨s41, ho40, h32⟩ := Option.bind_eq_some_iff.1 h32
        refine C_cutG (ι := (Value × (Nat → Prop))) (fun ⟨v43, A48⟩ => [(1, v_b), (5, v43), (28, v_a_), (29, .int .i64 (a_.length : Int)), (30, .int .i64 (k17 : Int))]) (fun ⟨v43, A48⟩ => fun w' => Hp w.heap.size A48 w' (obS (α := Int) 3 v43 s41 :: []) ∧ Tr w.heap.size A29 w26 A48 w') ?_ ?_
        · have hr42 : Tr w.heap.size A29 w26 A29 w26 := Tr.refl hA
          refine C_block ?_
          refine C_seq ?_
          refine C_region ?_
          refine V_y (Y_move rfl) rfl rfl rfl ?_
          obtain ⟨x50, hx50, ho40⟩ := Option.bind_eq_some_iff.1 ho40
          refine V_indexAddr h_a_ hx50 Tryd.underlying57 Tryd.sizeOf3 rfl rfl rfl ?_
          intro b51 o52 h53
          refine V_y (Y_load (El.int h53) Tryd.isAgg3 rfl) rfl rfl rfl ?_
          refine V_y (Y_assign rfl) rfl rfl rfl ?_
          refine V_y (Y_assign rfl) rfl rfl rfl ?_
          refine V_to (fun _ _ => rfl) ?_
          refine C_seq ?_
          refine C_region ?_
          refine V_y (Y_assign rfl) rfl rfl rfl ?_
          refine V_to (fun _ _ => rfl) ?_
          refine C_seq ?_
          refine C_seq ?_
          refine C_region ?_
          refine V_y (Y_move rfl) rfl rfl rfl ?_
          refine V_y (Y_lenSl h_b rfl Tryd.underlying57 rfl) rfl rfl rfl ?_
          refine V_y (Y_move rfl) rfl rfl rfl ?_
          refine V_to (fun _ _ => rfl) ?_
          have hn78 := Sl.le h_b
          obtain ⟨o54, ho54, ho40⟩ := Option.bind_eq_some_iff.1 ho40
          refine C_cutG (ι := (((List Int) × Int) × Value × (Nat → Prop))) (fun ⟨s55, v61, A63⟩ => [(1, v_b), (5, v61), (6, .int .i64 (k17 : Int)), (8, .int .i64 s55.2), (28, v_a_), (29, .int .i64 (a_.length : Int)), (30, .int .i64 (k17 : Int))]) (fun ⟨s55, v61, A63⟩ => fun w' => o54 = .fin s55 ∧ Hp w.heap.size A63 w' (obS (α := Int) 3 v61 s55.1 :: []) ∧ Tr w.heap.size A29 w26 A63 w') ?_ ?_
          · refine C_block ?_
            refine C_range ho54 (fun k57 s65 a w' => ∃ i : (Value × (Nat → Prop)), Has ⟨88, [], none⟩ a ([(1, v_b), (5, i.1), (6, .int .i64 (k17 : Int)), (7, .int .i64 x50), (8, .int .i64 s65.2), (28, v_a_), (29, .int .i64 (a_.length : Int)), (30, .int .i64 (k17 : Int)), (35, v_b), (36, .int .i64 (b.length : Int)), (37, .int .i64 (k57 : Int))]) ∧ Hp w.heap.size i.2 w' (obS (α := Int) 3 i.1 s65.1 :: []) ∧ Tr w.heap.size A29 w26 i.2 w') (fun a ha => ⟨(v27, A29), ha.sub ⟨rfl, rfl, rfl, rfl, rfl, rfl, rfl, rfl, rfl, rfl, rfl, trivial⟩, ⟨hH, Tr.refl hA⟩⟩) ?_
            rintro K k57 s65 a w66 ⟨⟨v67, A69⟩, ha99, hH70, hr56⟩ hle74 K77 h76
            refine C_of ?_ ha99
            replace h_b := Sl.tr h_b hr56
            replace h_a_ := Sl.tr h_a_ hr56
            replace hK := Tr.trans hK hr56
            replace hr16 := Tr.trans hr16 hr56
            replace hr42 := Tr.trans hr42 hr56
            replace hB := Nat.le_trans hB hr56.ex.size
            replace hA := hr56.new
            replace hH : Hp w.heap.size A69 w66 (obS (α := Int) 3 v67 s65.1 :: []) := hH70
            refine C_seq (C_region (V_y (Y_lss rfl rfl) rfl rfl rfl (V_to (fun _ _ => rfl) ?_)))
            refine C_seq ?_
            refine C_cond rfl (fun hc79 => ?_) (fun hc79 => ?_)
            · have hlt75 := lt_of_dec hc79
              obtain ⟨x71, h72, h73⟩ := K77 hlt75
              refine C_skip_to (fun _ _ => rfl) ?_
              refine C_seq ?_
              refine C_block ?_
              refine C_seq ?_
              refine C_region ?_
              refine V_y (Y_move rfl) rfl rfl rfl ?_
              obtain ⟨x80, hx80, h72⟩ := Option.bind_eq_some_iff.1 h72
              refine V_indexAddr h_b hx80 Tryd.underlying57 Tryd.sizeOf3 rfl rfl rfl ?_
              intro b81 o82 h83
              refine V_y (Y_load (El.int h83) Tryd.isAgg3 rfl) rfl rfl rfl ?_
              refine V_y (Y_assign rfl) rfl rfl rfl ?_
              refine V_y (Y_assign rfl) rfl rfl rfl ?_
              refine V_to (fun _ _ => rfl) ?_
              refine C_seq ?_
              refine C_region ?_
              refine V_y (Y_move rfl) rfl rfl rfl ?_
              refine V_y (Y_move rfl) rfl rfl rfl ?_
              refine V_y (Y_move rfl) rfl rfl rfl ?_
              refine V_y (Y_addI rfl rfl) rfl rfl rfl ?_
              obtain ⟨x84, hx84, h72⟩ := Option.bind_eq_some_iff.1 h72
              refine V_indexAddrH (α := Int) (e := 3) (v := v67) (l := s65.1) hH (i := 0) rfl hx84 Tryd.underlying57 Tryd.sizeOf3 rfl rfl rfl ?_
              intro b85 o86 h87 hl88
              refine V_y (Y_load (El.int h87) Tryd.isAgg3 rfl) rfl rfl rfl ?_
              refine V_y (Y_move rfl) rfl rfl rfl ?_
              refine V_y (Y_move rfl) rfl rfl rfl ?_
              refine V_y (Y_mulI rfl rfl) rfl rfl rfl ?_
              refine V_y (Y_addI rfl rfl) rfl rfl rfl ?_
              refine V_y (Y_move rfl) rfl rfl rfl ?_
              refine V_y (Y_addI rfl rfl) rfl rfl rfl ?_
              refine V_y (Y_assign rfl) rfl rfl rfl ?_
              refine V_to (fun _ _ => rfl) ?_
              refine C_region ?_
              refine V_y (Y_move rfl) rfl rfl rfl ?_
              refine V_y (Y_move rfl) rfl rfl rfl ?_
              refine V_y (Y_move rfl) rfl rfl rfl ?_
              refine V_y (Y_addI rfl rfl) rfl rfl rfl ?_
              refine V_y (Y_move rfl) rfl rfl rfl ?_
              refine V_y (Y_rem (by rw [rem, if_neg (by decide)]) rfl rfl) rfl rfl rfl ?_
              refine V_y (Y_move rfl) rfl rfl rfl ?_
              refine V_y (Y_quo (by rw [quo, if_neg (by decide)]) rfl rfl) rfl rfl rfl ?_
              refine V_indexAddrH (α := Int) (e := 3) (v := v67) (l := s65.1) hH (i := 0) rfl hx84 Tryd.underlying57 Tryd.sizeOf3 rfl rfl rfl ?_
              intro b89 o90 h91 hl92
              obtain ⟨x93, hx93, h72⟩ := Option.bind_eq_some_iff.1 h72
              refine V_storeH (α := Int) (e := 3) (v := v67) (l := s65.1) hH (i := 0) rfl hl92 hx93 rfl Tryd.sizeOf3 rfl hB hA rfl rfl ?_
              intro w94 hH95 ht96
              replace h_b := Sl.tr h_b ht96
              replace h_a_ := Sl.tr h_a_ ht96
              replace hK := Tr.trans hK ht96
              replace hr16 := Tr.trans hr16 ht96
              replace hr42 := Tr.trans hr42 ht96
              replace hr56 := Tr.trans hr56 ht96
              replace hB := Nat.le_trans hB ht96.ex.size
              replace hA := ht96.new
              replace hH : Hp w.heap.size A69 w94 (obS (α := Int) 3 v67 x93 :: []) := hH95
              refine V_y (Y_assign rfl) rfl rfl rfl ?_
              refine V_to (fun _ _ => rfl) ?_
              refine C_region ?_
              refine V_y (Y_addI rfl rfl) rfl rfl rfl ?_
              refine V_y (Y_move rfl) rfl rfl rfl ?_
              obtain rfl := Option.some.inj h72
              refine V_end (fun a ha97 => ?_)
              exact ⟨(x93, w64 (Int.tdiv (w64 ((w64 (x84 + (w64 (x50 * x80)))) + s65.2)) 1000000000)), hlt75, h73, ⟨(v67, A69), ha97.sub ⟨rfl, rfl, rfl, rfl, rfl, rfl, rfl, rfl, rfl, rfl, (congrArg (fun z => some (Value.int .i64 z)) (w64_succ hlt75 hn78)), trivial⟩, ⟨hH, hr56⟩⟩⟩
            · refine C_exit (fun a ha98 => ?_)
              exact ⟨((s65.1, s65.2), v67, A69), ha98.sub ⟨rfl, rfl, rfl, rfl, rfl, rfl, rfl, trivial⟩, ⟨(h76 (eq_of_dec hle74 hc79)).symm, hH, hr56⟩⟩
          rintro ⟨s55, v61, A63⟩ w58 ⟨rfl, hH64, hk59⟩ a ha60
          rw [Lp.andThen_fin] at ho40
          replace h_b := Sl.tr h_b hk59
          replace h_a_ := Sl.tr h_a_ hk59
          replace hK := Tr.trans hK hk59
          replace hr16 := Tr.trans hr16 hk59
          replace hr42 := Tr.trans hr42 hk59
          replace hB := Nat.le_trans hB hk59.ex.size
          replace hA := hk59.new
          replace hH : Hp w.heap.size A63 w58 (obS (α := Int) 3 v61 s55.1 :: []) := hH64
          refine C_at (n := ⟨88, [], none⟩) (fun _ _ => rfl) ?_ ha60
          refine C_seq ?_
          refine C_region ?_
          refine V_y (Y_move rfl) rfl rfl rfl ?_
          refine V_y (Y_move rfl) rfl rfl rfl ?_
          refine V_y (Y_lenSl h_b rfl Tryd.underlying57 rfl) rfl rfl rfl ?_
          refine V_y (Y_addI rfl rfl) rfl rfl rfl ?_
          refine V_y (Y_assign rfl) rfl rfl rfl ?_
          refine V_to (fun _ _ => rfl) ?_
          obtain ⟨o100, ho100, ho40⟩ := Option.bind_eq_some_iff.1 ho40
          refine C_cutG (ι := (((List Int) × Int × Int) × Value × (Nat → Prop))) (fun ⟨s101, v107, A109⟩ => [(1, v_b), (5, v107), (28, v_a_), (29, .int .i64 (a_.length : Int)), (30, .int .i64 (k17 : Int))]) (fun ⟨s101, v107, A109⟩ => fun w' => o100 = .fin s101 ∧ Hp w.heap.size A109 w' (obS (α := Int) 3 v107 s101.1 :: []) ∧ Tr w.heap.size A63 w58 A109 w') ?_ ?_
          · refine C_block ?_
            refine C_while ho100 (fun s111 a w' => ∃ i : (Value × (Nat → Prop)), Has ⟨88, [], none⟩ a ([(1, v_b), (5, i.1), (8, .int .i64 s111.2.1), (12, .int .i64 s111.2.2), (28, v_a_), (29, .int .i64 (a_.length : Int)), (30, .int .i64 (k17 : Int))]) ∧ Hp w.heap.size i.2 w' (obS (α := Int) 3 i.1 s111.1 :: []) ∧ Tr w.heap.size A63 w58 i.2 w') (fun a ha => ⟨(v61, A63), ha.sub ⟨rfl, rfl, rfl, rfl, rfl, rfl, rfl, trivial⟩, ⟨hH, Tr.refl hA⟩⟩) ?_
            rintro K s111 a w112 ⟨⟨v113, A115⟩, ha140, hH116, hr102⟩ K123
            refine C_of ?_ ha140
            replace h_b := Sl.tr h_b hr102
            replace h_a_ := Sl.tr h_a_ hr102
            replace hK := Tr.trans hK hr102
            replace hr16 := Tr.trans hr16 hr102
            replace hr42 := Tr.trans hr42 hr102
            replace hB := Nat.le_trans hB hr102.ex.size
            replace hA := hr102.new
            replace hH : Hp w.heap.size A115 w112 (obS (α := Int) 3 v113 s111.1 :: []) := hH116
            obtain ⟨x117, h118, h119⟩ := K123
            refine C_seq ?_
            refine C_seq ?_
            refine C_region ?_
            refine V_y (Y_move rfl) rfl rfl rfl ?_
            refine V_y (Y_gtr rfl rfl) rfl rfl rfl ?_
            refine V_to (fun _ _ => rfl) ?_
            refine C_cond rfl (fun hc124 => ?_) (fun hc124 => ?_)
            · rw [if_pos hc124] at h118
              refine C_skip_to (fun _ _ => rfl) ?_
              refine C_seq ?_
              refine C_block ?_
              refine C_seq ?_
              refine C_region ?_
              refine V_y (Y_move rfl) rfl rfl rfl ?_
              refine V_y (Y_move rfl) rfl rfl rfl ?_
              obtain ⟨x125, hx125, h118⟩ := Option.bind_eq_some_iff.1 h118
              refine V_indexAddrH (α := Int) (e := 3) (v := v113) (l := s111.1) hH (i := 0) rfl hx125 Tryd.underlying57 Tryd.sizeOf3 rfl rfl rfl ?_
              intro b126 o127 h128 hl129
              refine V_y (Y_load (El.int h128) Tryd.isAgg3 rfl) rfl rfl rfl ?_
              refine V_y (Y_move rfl) rfl rfl rfl ?_
              refine V_y (Y_addI rfl rfl) rfl rfl rfl ?_
              refine V_y (Y_assign rfl) rfl rfl rfl ?_
              refine V_to (fun _ _ => rfl) ?_
              refine C_region ?_
              refine V_y (Y_move rfl) rfl rfl rfl ?_
              refine V_y (Y_move rfl) rfl rfl rfl ?_
              refine V_y (Y_move rfl) rfl rfl rfl ?_
              refine V_y (Y_rem (by rw [rem, if_neg (by decide)]) rfl rfl) rfl rfl rfl ?_
              refine V_y (Y_move rfl) rfl rfl rfl ?_
              refine V_y (Y_quo (by rw [quo, if_neg (by decide)]) rfl rfl) rfl rfl rfl ?_
              refine V_indexAddrH (α := Int) (e := 3) (v := v113) (l := s111.1) hH (i := 0) rfl hx125 Tryd.underlying57 Tryd.sizeOf3 rfl rfl rfl ?_
              intro b130 o131 h132 hl133
              obtain ⟨x134, hx134, h118⟩ := Option.bind_eq_some_iff.1 h118
              refine V_storeH (α := Int) (e := 3) (v := v113) (l := s111.1) hH (i := 0) rfl hl133 hx134 rfl Tryd.sizeOf3 rfl hB hA rfl rfl ?_
              intro w135 hH136 ht137
              replace h_b := Sl.tr h_b ht137
              replace h_a_ := Sl.tr h_a_ ht137
              replace hK := Tr.trans hK ht137
              replace hr16 := Tr.trans hr16 ht137
              replace hr42 := Tr.trans hr42 ht137
              replace hr102 := Tr.trans hr102 ht137
              replace hB := Nat.le_trans hB ht137.ex.size
              replace hA := ht137.new
              replace hH : Hp w.heap.size A115 w135 (obS (α := Int) 3 v113 x134 :: []) := hH136
              refine V_y (Y_assign rfl) rfl rfl rfl ?_
              refine V_to (fun _ _ => rfl) ?_
              refine C_region ?_
              refine V_y (Y_move rfl) rfl rfl rfl ?_
              refine V_y (Y_addI rfl rfl) rfl rfl rfl ?_
              refine V_y (Y_assign rfl) rfl rfl rfl ?_
              obtain rfl := Option.some.inj h118
              refine V_end (fun a ha138 => ?_)
              exact ⟨(x134, w64 (Int.tdiv (w64 (x125 + s111.2.1)) 1000000000), w64 (s111.2.2 + 1)), h119, ⟨(v113, A115), ha138.sub ⟨rfl, rfl, rfl, rfl, rfl, rfl, rfl, trivial⟩, ⟨hH, hr102⟩⟩⟩
            · rw [if_neg (nt hc124)] at h118
              obtain rfl := Option.some.inj h118
              refine C_exit (fun a ha139 => ?_)
              exact ⟨((s111.1, s111.2.1, s111.2.2), v113, A115), ha139.sub ⟨rfl, rfl, rfl, rfl, rfl, trivial⟩, ⟨h119.symm, hH, hr102⟩⟩
          rintro ⟨s101, v107, A109⟩ w104 ⟨rfl, hH110, hk105⟩ a ha106
          rw [Lp.andThen_fin] at ho40
          replace h_b := Sl.tr h_b hk105
          replace h_a_ := Sl.tr h_a_ hk105
          replace hK := Tr.trans hK hk105
          replace hr16 := Tr.trans hr16 hk105
          replace hr42 := Tr.trans hr42 hk105
          replace hB := Nat.le_trans hB hk105.ex.size
          replace hA := hk105.new
          replace hH : Hp w.heap.size A109 w104 (obS (α := Int) 3 v107 s101.1 :: []) := hH110
          obtain rfl := Option.some.inj ho40
          exact ⟨(v107, A109), ha106.sub ⟨rfl, rfl, rfl, rfl, rfl, trivial⟩, ⟨hH, hr42⟩⟩
        rintro ⟨v43, A48⟩ w45 ⟨hH49, hk46⟩ a ha47
        replace h_b := Sl.tr h_b hk46
        replace h_a_ := Sl.tr h_a_ hk46
        replace hK := Tr.trans hK hk46
        replace hr16 := Tr.trans hr16 hk46
        replace hB := Nat.le_trans hB hk46.ex.size
        replace hA := hk46.new
        replace hH : Hp w.heap.size A48 w45 (obS (α := Int) 3 v43 s41 :: []) := hH49
        refine C_at (n := ⟨88, [], none⟩) (fun _ _ => rfl) ?_ ha47
        refine C_region ?_
        refine V_y (Y_addI rfl rfl) rfl rfl rfl ?_
        refine V_y (Y_move rfl) rfl rfl rfl ?_
        obtain rfl := Option.some.inj h32
        refine V_end (fun a ha142 => ?_)
        exact ⟨s41, hlt35, h33, ⟨(v43, A48), ha142.sub ⟨rfl, rfl, rfl, rfl, (congrArg (fun z => some (Value.int .i64 z)) (w64_succ hlt35 hn38)), trivial⟩, ⟨hH, hr16⟩⟩⟩
      · refine C_exit (fun a ha143 => ?_)
        exact ⟨(s25, v27, A29), ha143.sub ⟨rfl, trivial⟩, ⟨(h36 (eq_of_dec hle34 hc39)).symm, hH, hr16⟩⟩
    rintro ⟨s15, v21, A23⟩ w18 ⟨rfl, hH24, hk19⟩ a ha20
    rw [Lp.andThen_fin] at hm
    replace hK := Tr.trans hK hk19
    replace hB := Nat.le_trans hB hk19.ex.size
    replace hA := hk19.new
    replace hH : Hp w.heap.size A23 w18 (obS (α := Int) 3 v21 s15 :: []) := hH24
    refine C_at (n := ⟨88, [], none⟩) (fun _ _ => rfl) ?_ ha20
    refine C_seq ?_
    refine C_region ?_
    refine V_y (Y_move rfl) rfl rfl rfl ?_
    obtain ⟨A145, ht146, h147, hH148⟩ := Hp.freeze (α := Int) (v := v21) (l := s15) hH (i := 0) rfl hA
    replace hK := Tr.trans hK ht146
    replace hB := Nat.le_trans hB ht146.ex.size
    replace hA := ht146.new
    replace hH : Hp w.heap.size A145 w18 ([]) := hH148
    obtain ⟨x150, hx150, hm⟩ := Option.bind_eq_some_iff.1 hm
    refine V_call Tryd.call45 rfl rfl rfl rfl (staff_nat_trimmed_c w18 s15 v21 h147 hx150) ?_
    rintro v151 _ ⟨_, rfl, h152, rfl⟩
    refine V_y (Y_assign rfl) rfl rfl rfl ?_
    refine V_to (fun _ _ => rfl) ?_
    obtain rfl := Option.some.inj hm
    refine C_ret ?_
    try simp only [↓inBlock_ret, ↓then_ret]
    exact retQ rfl (Res.one Tryd.results40 rfl) ⟨v151, rfl, (Sl.out h152 hA0 hK), hK.kp⟩

set_option maxRecDepth 4000 in
set_option maxHeartbeats 4000000 in
theorem staff_nat_compare_c (w : World) {A : Nat → Prop} (hA : ∀ b, w.heap.size ≤ b → A b) (a_ : (List Int)) (v_a_ : Value) (h_a_ : Sl A w v_a_ a_) (b : (List Int)) (v_b : Value) (h_b : Sl A w v_b b) {r : Int} (hm : staff_nat_compare a_ b = some r) : Ret Tryd.prog 41 #[v_a_, v_b] w fun v w' => v = .int .i64 r ∧ Kp w w' := by
  unfold staff_nat_compare at hm
  refine enter Tryd.func41 rfl Tryd.ntmps41 rfl ?_
  have hA0 := hA
  have hB := Nat.le_refl w.heap.size
  have hK : Tr w.heap.size A w A w := Tr.refl hA
  have hH : Hp w.heap.size A w [] := Hp.nil
  refine C_seq ?_
  refine C_region ?_
  refine V_y (Y_assign rfl) rfl rfl rfl ?_
  refine V_to (fun _ _ => rfl) ?_
  refine C_seq ?_
  refine C_seq ?_
  refine C_region ?_
  refine V_y (Y_move rfl) rfl rfl rfl ?_
  refine V_y (Y_lenSl h_a_ rfl Tryd.underlying57 rfl) rfl rfl rfl ?_
  refine V_y (Y_move rfl) rfl rfl rfl ?_
  refine V_y (Y_lenSl h_b rfl Tryd.underlying57 rfl) rfl rfl rfl ?_
  refine V_y (Y_neq rfl rfl) rfl rfl rfl ?_
  refine V_to (fun _ _ => rfl) ?_
  refine C_cond rfl (fun hc5 => ?_) (fun hc5 => ?_)
  · rw [if_pos hc5] at hm
    refine C_seq ?_
    refine C_seq ?_
    refine C_region ?_
    refine V_y (Y_move rfl) rfl rfl rfl ?_
    refine V_y (Y_lenSl h_a_ rfl Tryd.underlying57 rfl) rfl rfl rfl ?_
    refine V_y (Y_move rfl) rfl rfl rfl ?_
    refine V_y (Y_lenSl h_b rfl Tryd.underlying57 rfl) rfl rfl rfl ?_
    refine V_y (Y_lss rfl rfl) rfl rfl rfl ?_
    refine V_to (fun _ _ => rfl) ?_
    refine C_cond rfl (fun hc6 => ?_) (fun hc6 => ?_)
    · rw [if_pos hc6] at hm
      refine C_seq ?_
      refine C_region ?_
      refine V_y (Y_assign rfl) rfl rfl rfl ?_
      refine V_to (fun _ _ => rfl) ?_
      obtain rfl := Option.some.inj hm
      refine C_ret ?_
      try simp only [↓inBlock_ret, ↓then_ret]
      exact retQ rfl (Res.one Tryd.results41 rfl) ⟨rfl, hK.kp⟩
    · rw [if_neg (nt hc6)] at hm
      refine C_skip_to (fun _ _ => rfl) ?_
      refine C_seq ?_
      refine C_region ?_
      refine V_y (Y_assign rfl) rfl rfl rfl ?_
      refine V_to (fun _ _ => rfl) ?_
      obtain rfl := Option.some.inj hm
      refine C_ret ?_
      try simp only [↓inBlock_ret, ↓then_ret]
      exact retQ rfl (Res.one Tryd.results41 rfl) ⟨rfl, hK.kp⟩
  · rw [if_neg (nt hc5)] at hm
    refine C_skip_to (fun _ _ => rfl) ?_
    refine C_seq ?_
    refine C_seq ?_
    refine C_region ?_
    refine V_y (Y_move rfl) rfl rfl rfl ?_
    refine V_y (Y_lenSl h_a_ rfl Tryd.underlying57 rfl) rfl rfl rfl ?_
    refine V_y (Y_subI rfl rfl) rfl rfl rfl ?_
    refine V_y (Y_assign rfl) rfl rfl rfl ?_
    refine V_to (fun _ _ => rfl) ?_
    obtain ⟨o7, ho7, hm⟩ := Option.bind_eq_some_iff.1 hm
    refine C_cutG (ι := (Int × (Nat → Prop))) (fun ⟨s8, A14⟩ => []) (fun ⟨s8, A14⟩ => fun w' => o7 = .fin s8 ∧ Hp w.heap.size A14 w' ([]) ∧ Tr w.heap.size A w A14 w') ?_ ?_
    · refine C_block ?_
      refine C_while ho7 (fun s16 a w' => ∃ i : (Nat → Prop), Has ⟨41, [], none⟩ a ([(0, v_a_), (1, v_b), (5, .int .i64 s16)]) ∧ Hp w.heap.size i w' ([]) ∧ Tr w.heap.size A w i w') (fun a ha => ⟨A, ha.sub ⟨rfl, rfl, rfl, trivial⟩, ⟨hH, Tr.refl hA⟩⟩) ?_
      rintro K s16 a w17 ⟨A18, ha52, hH19, hr9⟩ K26
      refine C_of ?_ ha52
      replace h_a_ := Sl.tr h_a_ hr9
      replace h_b := Sl.tr h_b hr9
      replace hK := Tr.trans hK hr9
      replace hB := Nat.le_trans hB hr9.ex.size
      replace hA := hr9.new
      replace hH : Hp w.heap.size A18 w17 ([]) := hH19
      obtain ⟨x20, h21, h22⟩ := K26
      refine C_seq ?_
      refine C_seq ?_
      refine C_region ?_
      refine V_y (Y_move rfl) rfl rfl rfl ?_
      refine V_y (Y_geq rfl rfl) rfl rfl rfl ?_
      refine V_to (fun _ _ => rfl) ?_
      refine C_cond rfl (fun hc27 => ?_) (fun hc27 => ?_)
      · rw [if_pos hc27] at h21
        refine C_skip_to (fun _ _ => rfl) ?_
        refine C_seq ?_
        refine C_block ?_
        refine C_seq ?_
        refine C_region_q Tryd_mixed (by kernel_rfl) ?_
        refine VQ_y (fun w' hw' => Y_move rfl) rfl rfl rfl ?_
        refine VQ_y (fun w' hw' => Y_move rfl) rfl rfl rfl ?_
        obtain ⟨x28, hx28, h21⟩ := Option.bind_eq_some_iff.1 h21
        refine VQ_indexAddr h_a_ hx28 Tryd.underlying57 Tryd.sizeOf3 rfl rfl rfl ?_
        intro b29 o30 h31
        refine VQ_y (fun w' hw' => Y_load (El.int (El.kp h31 hw')) Tryd.isAgg3 rfl) rfl rfl rfl ?_
        refine VQ_y (fun w' hw' => Y_move rfl) rfl rfl rfl ?_
        refine VQ_y (fun w' hw' => Y_move rfl) rfl rfl rfl ?_
        obtain ⟨x32, hx32, h21⟩ := Option.bind_eq_some_iff.1 h21
        refine VQ_indexAddr h_b hx32 Tryd.underlying57 Tryd.sizeOf3 rfl rfl rfl ?_
        intro b33 o34 h35
        refine VQ_y (fun w' hw' => Y_load (El.int (El.kp h35 hw')) Tryd.isAgg3 rfl) rfl rfl rfl ?_
        refine VQ_y (fun w' hw' => Y_neq rfl rfl) rfl rfl rfl ?_
        refine VQ_to (fun _ _ => rfl) (fun w36 hk37 => ?_)
        have ht38 := Kp.tr hk37 hA hB
        replace hH := Hp.kp hH hk37
        replace h_a_ := Sl.tr h_a_ ht38
        replace h_b := Sl.tr h_b ht38
        replace hK := Tr.trans hK ht38
        replace hr9 := Tr.trans hr9 ht38
        replace hB := Nat.le_trans hB ht38.ex.size
        replace hA := ht38.new
        refine C_cond rfl (fun hc39 => ?_) (fun hc39 => ?_)
        · rw [if_pos hc39] at h21
          refine C_seq ?_
          refine C_seq ?_
          refine C_region_q Tryd_mixed (by kernel_rfl) ?_
          refine VQ_y (fun w' hw' => Y_move rfl) rfl rfl rfl ?_
          refine VQ_y (fun w' hw' => Y_move rfl) rfl rfl rfl ?_
          refine VQ_indexAddr h_a_ hx28 Tryd.underlying57 Tryd.sizeOf3 rfl rfl rfl ?_
          intro b40 o41 h42
          refine VQ_y (fun w' hw' => Y_load (El.int (El.kp h42 hw')) Tryd.isAgg3 rfl) rfl rfl rfl ?_
          refine VQ_y (fun w' hw' => Y_move rfl) rfl rfl rfl ?_
          refine VQ_y (fun w' hw' => Y_move rfl) rfl rfl rfl ?_
          refine VQ_indexAddr h_b hx32 Tryd.underlying57 Tryd.sizeOf3 rfl rfl rfl ?_
          intro b43 o44 h45
          refine VQ_y (fun w' hw' => Y_load (El.int (El.kp h45 hw')) Tryd.isAgg3 rfl) rfl rfl rfl ?_
          refine VQ_y (fun w' hw' => Y_lss rfl rfl) rfl rfl rfl ?_
          refine VQ_to (fun _ _ => rfl) (fun w46 hk47 => ?_)
          have ht48 := Kp.tr hk47 hA hB
          replace hH := Hp.kp hH hk47
          replace hK := Tr.trans hK ht48
          replace hr9 := Tr.trans hr9 ht48
          replace hB := Nat.le_trans hB ht48.ex.size
          replace hA := ht48.new
          refine C_cond rfl (fun hc49 => ?_) (fun hc49 => ?_)
          · rw [if_pos hc49] at h21
            refine C_seq ?_
            refine C_region ?_
            refine V_y (Y_assign rfl) rfl rfl rfl ?_
            refine V_to (fun _ _ => rfl) ?_
            obtain rfl := Option.some.inj h21
            obtain rfl := (h22 : Lp.rt _ = _)
            rw [Lp.andThen_rt] at hm
            obtain rfl := Option.some.inj hm
            refine C_ret ?_
            try simp only [↓inBlock_ret, ↓then_ret]
            exact retQ rfl (Res.one Tryd.results41 rfl) ⟨rfl, hK.kp⟩
          · rw [if_neg (nt hc49)] at h21
            refine C_skip_to (fun _ _ => rfl) ?_
            refine C_seq ?_
            refine C_region ?_
            refine V_y (Y_assign rfl) rfl rfl rfl ?_
            refine V_to (fun _ _ => rfl) ?_
            obtain rfl := Option.some.inj h21
            obtain rfl := (h22 : Lp.rt _ = _)
            rw [Lp.andThen_rt] at hm
            obtain rfl := Option.some.inj hm
            refine C_ret ?_
            try simp only [↓inBlock_ret, ↓then_ret]
            exact retQ rfl (Res.one Tryd.results41 rfl) ⟨rfl, hK.kp⟩
        · rw [if_neg (nt hc39)] at h21
          refine C_skip_to (fun _ _ => rfl) ?_
          refine C_region ?_
          refine V_y (Y_move rfl) rfl rfl rfl ?_
          refine V_y (Y_subI rfl rfl) rfl rfl rfl ?_
          refine V_y (Y_assign rfl) rfl rfl rfl ?_
          obtain rfl := Option.some.inj h21
          refine V_end (fun a ha50 => ?_)
          exact ⟨w64 (s16 - 1), h22, ⟨A18, ha50.sub ⟨rfl, rfl, rfl, trivial⟩, ⟨hH, hr9⟩⟩⟩
      · rw [if_neg (nt hc27)] at h21
        obtain rfl := Option.some.inj h21
        refine C_exit (fun a ha51 => ?_)
        exact ⟨(s16, A18), ha51.sub trivial, ⟨h22.symm, hH, hr9⟩⟩
    rintro ⟨s8, A14⟩ w11 ⟨rfl, hH15, hk12⟩ a ha13
    rw [Lp.andThen_fin] at hm
    replace hK := Tr.trans hK hk12
    replace hB := Nat.le_trans hB hk12.ex.size
    replace hA := hk12.new
    replace hH : Hp w.heap.size A14 w11 ([]) := hH15
    refine C_at (n := ⟨41, [], none⟩) (fun _ _ => rfl) ?_ ha13
    refine C_seq ?_
    refine C_region ?_
    refine V_y (Y_assign rfl) rfl rfl rfl ?_
    refine V_to (fun _ _ => rfl) ?_
    obtain rfl := Option.some.inj hm
    refine C_ret ?_
    try simp only [↓inBlock_ret, ↓then_ret]
    exact retQ rfl (Res.one Tryd.results41 rfl) ⟨rfl, hK.kp⟩

set_option maxRecDepth 4000 in
set_option maxHeartbeats 4000000 in
theorem staff_ratio_compare_c (w : World) {A : Nat → Prop} (hA : ∀ b, w.heap.size ≤ b → A b) (r_ : staff_ratio) (v_r_0 : Value) (h_r_0 : Sl A w v_r_0 r_.num) (v_r_1 : Value) (h_r_1 : Sl A w v_r_1 r_.den) (s : staff_ratio) (v_s0 : Value) (h_s0 : Sl A w v_s0 s.num) (v_s1 : Value) (h_s1 : Sl A w v_s1 s.den) {r : Int} (hm : staff_ratio_compare r_ s = some r) : Ret Tryd.prog 30 #[.agg #[v_r_0, v_r_1], .agg #[v_s0, v_s1]] w fun v w' => v = .int .i64 r ∧ Kp w w' := by
  unfold staff_ratio_compare at hm
  refine enter Tryd.func30 rfl Tryd.ntmps30 rfl ?_
  have hA0 := hA
  have hB := Nat.le_refl w.heap.size
  have hK : Tr w.heap.size A w A w := Tr.refl hA
  have hH : Hp w.heap.size A w [] := Hp.nil
  refine C_seq ?_
  refine C_region ?_
  refine V_box rfl rfl ?_
  intro b9 w10 h11
  have hk13 := h11.kp
  have h12 : El (α := staff_ratio) A w10 b9 0 r_ := h11.el hA ⟨[v_r_0], _, rfl, ⟨_, rfl, h_r_0⟩, ⟨_, rfl, h_r_1⟩⟩
  have ht14 := Kp.tr hk13 hA hB
  replace hH := Hp.kp hH hk13
  replace h_r_0 := Sl.tr h_r_0 ht14
  replace h_r_1 := Sl.tr h_r_1 ht14
  replace h_s0 := Sl.tr h_s0 ht14
  replace h_s1 := Sl.tr h_s1 ht14
  replace hK := Tr.trans hK ht14
  replace hB := Nat.le_trans hB ht14.ex.size
  replace hA := ht14.new
  refine V_box rfl rfl ?_
  intro b15 w17 h18
  have hk20 := h18.kp
  have h19 : El (α := staff_ratio) A w17 b15 0 s := h18.el hA ⟨[v_s0], _, rfl, ⟨_, rfl, h_s0⟩, ⟨_, rfl, h_s1⟩⟩
  have ht21 := Kp.tr hk20 hA hB
  replace hH := Hp.kp hH hk20
  replace h_r_0 := Sl.tr h_r_0 ht21
  replace h_r_1 := Sl.tr h_r_1 ht21
  replace h_s0 := Sl.tr h_s0 ht21
  replace h_s1 := Sl.tr h_s1 ht21
  replace h12 := El.tr h12 ht21
  replace hK := Tr.trans hK ht21
  replace hB := Nat.le_trans hB ht21.ex.size
  replace hA := ht21.new
  refine V_y (Y_assign rfl) rfl rfl rfl ?_
  refine V_to (fun _ _ => rfl) ?_
  refine C_seq ?_
  refine C_region_ch A 12 [(1, 0), (1, 1), (1, 2), (1, 3), (1, 5), (1, 6), (1, 7), (1, 8), (2, 4), (2, 9), (2, 10), (1, 11)] Tryd_mixed (by kernel_rfl) (fun w22 hk23 => ?_)
  have ht24 := Kp.tr hk23 hA hB
  replace hH := Hp.kp hH hk23
  replace h12 := El.tr h12 ht24
  replace h19 := El.tr h19 ht24
  replace hK := Tr.trans hK ht24
  replace hB := Nat.le_trans hB ht24.ex.size
  replace hA := ht24.new
  refine CH_q2 rfl ?_
  have h25 := El_staff_ratio_0 h12
  refine VQ_y (fun w' hw' => Y_fieldAddr Tryd.underlying59 rfl Tryd.sizeOf57 (by decide) rfl) rfl rfl rfl ?_
  refine VQ_CH ?_
  refine CH_q2 rfl ?_
  obtain ⟨v26, h27, h28⟩ := El.list h25
  refine VQ_y (fun w' hw' => Y_load ((World.cell?_of_block (hw'.2 _ h25.2.1 h25.1)).trans h27) Tryd.isAgg57 rfl) rfl rfl rfl ?_
  refine VQ_CH ?_
  refine CH_q2 rfl ?_
  have h29 := El_staff_ratio_1 h19
  refine VQ_y (fun w' hw' => Y_fieldAddr Tryd.underlying59 rfl Tryd.sizeOf57 (by decide) rfl) rfl rfl rfl ?_
  refine VQ_CH ?_
  refine CH_q2 rfl ?_
  obtain ⟨v30, h31, h32⟩ := El.list h29
  refine VQ_y (fun w' hw' => Y_load ((World.cell?_of_block (hw'.2 _ h29.2.1 h29.1)).trans h31) Tryd.isAgg57 rfl) rfl rfl rfl ?_
  refine VQ_CH ?_
  refine CH_q2 rfl ?_
  have h33 := El_staff_ratio_0 h19
  refine VQ_y (fun w' hw' => Y_fieldAddr Tryd.underlying59 rfl Tryd.sizeOf57 (by decide) rfl) rfl rfl rfl ?_
  refine VQ_CH ?_
  refine CH_q2 rfl ?_
  obtain ⟨v34, h35, h36⟩ := El.list h33
  refine VQ_y (fun w' hw' => Y_load ((World.cell?_of_block (hw'.2 _ h33.2.1 h33.1)).trans h35) Tryd.isAgg57 rfl) rfl rfl rfl ?_
  refine VQ_CH ?_
  refine CH_q2 rfl ?_
  have h37 := El_staff_ratio_1 h12
  refine VQ_y (fun w' hw' => Y_fieldAddr Tryd.underlying59 rfl Tryd.sizeOf57 (by decide) rfl) rfl rfl rfl ?_
  refine VQ_CH ?_
  refine CH_q2 rfl ?_
  obtain ⟨v38, h39, h40⟩ := El.list h37
  refine VQ_y (fun w' hw' => Y_load ((World.cell?_of_block (hw'.2 _ h37.2.1 h37.1)).trans h39) Tryd.isAgg57 rfl) rfl rfl rfl ?_
  refine VQ_CH ?_
  refine CH_l1 (k := 0) rfl ?_
  obtain ⟨x41, hx41, hm⟩ := Option.bind_eq_some_iff.1 hm
  refine V_call Tryd.call40 rfl rfl rfl rfl (staff_nat_times_c w22 hA r_.num v26 h28 s.den v30 h32 hx41) ?_
  rintro v42 w44 ⟨_, rfl, h43, hk45⟩
  have ht46 := Kp.tr hk45 hA hB
  replace hH := Hp.kp hH hk45
  replace h12 := El.tr h12 ht46
  replace h19 := El.tr h19 ht46
  replace h25 := El.tr h25 ht46
  replace h28 := Sl.tr h28 ht46
  replace h29 := El.tr h29 ht46
  replace h32 := Sl.tr h32 ht46
  replace h33 := El.tr h33 ht46
  replace h36 := Sl.tr h36 ht46
  replace h37 := El.tr h37 ht46
  replace h40 := Sl.tr h40 ht46
  replace hK := Tr.trans hK ht46
  replace hB := Nat.le_trans hB ht46.ex.size
  replace hA := ht46.new
  refine V_CH (hk45) ?_
  refine CH_l1 (k := 0) rfl ?_
  obtain ⟨x47, hx47, hm⟩ := Option.bind_eq_some_iff.1 hm
  refine V_call Tryd.call40 rfl rfl rfl rfl (staff_nat_times_c w44 hA s.num v34 h36 r_.den v38 h40 hx47) ?_
  rintro v48 w50 ⟨_, rfl, h49, hk51⟩
  have ht52 := Kp.tr hk51 hA hB
  replace hH := Hp.kp hH hk51
  replace h12 := El.tr h12 ht52
  replace h19 := El.tr h19 ht52
  replace h25 := El.tr h25 ht52
  replace h28 := Sl.tr h28 ht52
  replace h29 := El.tr h29 ht52
  replace h32 := Sl.tr h32 ht52
  replace h33 := El.tr h33 ht52
  replace h36 := Sl.tr h36 ht52
  replace h37 := El.tr h37 ht52
  replace h40 := Sl.tr h40 ht52
  replace h43 := Sl.tr h43 ht52
  replace hK := Tr.trans hK ht52
  replace hB := Nat.le_trans hB ht52.ex.size
  replace hA := ht52.new
  refine V_CH (hk51) ?_
  refine CH_l1 (k := 0) rfl ?_
  obtain ⟨x53, hx53, hm⟩ := Option.bind_eq_some_iff.1 hm
  refine V_call Tryd.call41 rfl rfl rfl rfl (staff_nat_compare_c w50 hA x41 v42 h43 x47 v48 h49 hx53) ?_
  rintro _ w54 ⟨rfl, hk55⟩
  have ht56 := Kp.tr hk55 hA hB
  replace hH := Hp.kp hH hk55
  replace h12 := El.tr h12 ht56
  replace h19 := El.tr h19 ht56
  replace h25 := El.tr h25 ht56
  replace h28 := Sl.tr h28 ht56
  replace h29 := El.tr h29 ht56
  replace h32 := Sl.tr h32 ht56
  replace h33 := El.tr h33 ht56
  replace h36 := Sl.tr h36 ht56
  replace h37 := El.tr h37 ht56
  replace h40 := Sl.tr h40 ht56
  replace h43 := Sl.tr h43 ht56
  replace h49 := Sl.tr h49 ht56
  replace hK := Tr.trans hK ht56
  replace hB := Nat.le_trans hB ht56.ex.size
  replace hA := ht56.new
  refine V_CH (hk55) ?_
  refine CH_q2 rfl ?_
  refine VQ_y (fun w' hw' => Y_assign rfl) rfl rfl rfl ?_
  refine VQ_CH ?_
  refine CH_tail ?_
  show V _ _ _ _ [] _ _
  refine V_to (fun _ _ => rfl) ?_
  obtain rfl := Option.some.inj hm
  refine C_ret ?_
  try simp only [↓inBlock_ret, ↓then_ret]
  exact retQ rfl (Res.one Tryd.results30 rfl) ⟨rfl, hK.kp⟩

end Go.Proofs.YtcehkbhloaeflaaDoor.W
