/-
  Written by program (gen.py) from the IR of the dump: each function computes its model.
-/
import Derived.Test.YtgeagllbckdfhaaProg
import Derived.Test.YtgeagllbckdfhaaGe
import Derived.Test.YtgeagllbckdfhaaQueryReadsM
import Derived.KernelRfl
import Derived.Test.YtgeagllbckdfhaaGi
import Derived.Test.YtgeagllbckdfhaaHc
import Derived.Test.YtgeagllbckdfhaaHd
namespace Go.Proofs.Ytgeagllbckdfhaa.W
open Go Go.RowKit Go.Pu Go.Gw Go.Proofs Go.Proofs.Ytgeagllbckdfhaa.M
set_option linter.unusedVariables false
set_option linter.unusedSimpArgs false

theorem Try_info9 : Try.prog.info? 9 = some Try.t9 := by kernel_rfl
theorem Try_info38 : Try.prog.info? 38 = some Try.t38 := by kernel_rfl
theorem Try_places24 : ∀ fs, Try.prog.underlying 24 = some (.struct fs) → ∀ w : World, (Array.mapM (fun (f : Field) => do pure (f.offset, ← Go.sizeOf f.type)) fs).run Try.prog w = .ok #[(0, 1)] w := by
  intro fs h w
  rw [Try.underlying24] at h
  cases h
  kernel_rfl
theorem Try_places35 : ∀ fs, Try.prog.underlying 35 = some (.struct fs) → ∀ w : World, (Array.mapM (fun (f : Field) => do pure (f.offset, ← Go.sizeOf f.type)) fs).run Try.prog w = .ok #[(0, 1), (1, 1)] w := by
  intro fs h w
  rw [Try.underlying35] at h
  cases h
  kernel_rfl
theorem Try_places38 : ∀ fs, Try.prog.underlying 38 = some (.struct fs) → ∀ w : World, (Array.mapM (fun (f : Field) => do pure (f.offset, ← Go.sizeOf f.type)) fs).run Try.prog w = .ok #[(0, 1), (1, 1), (2, 1)] w := by
  intro fs h w
  rw [Try.underlying38] at h
  cases h
  kernel_rfl
theorem Try_ext61 : Try.prog.funcs[61]? = some Try.f61 := by kernel_rfl
theorem Try_extn61 : Extern.findNext Try.f61 = none := by kernel_rfl
theorem Try_extf61 : Extern.find Try.f61 = some Extern.BytealgIndexByte.indexByte := by kernel_rfl
theorem Try_extb61 : (Try.f61.name == "runtime.NumGoroutine") = false ∧ Try.f61.body.isNone = true := by constructor <;> kernel_rfl
theorem Try_mixed : Try.prog.follows .mixedOrders = true := by kernel_rfl

instance : GoT know_Part := GoT.of (β := Int × Bool × (List ByteArray)) fun x => (x.kind, x.not, x.words)

theorem El_know_Part_ {A : Nat → Prop} {w : World} {b off : Nat} {x : know_Part} (h : El A w b off x) : El (α := Int × Bool × (List ByteArray)) A w b off (x.kind, x.not, x.words) := h

theorem El_know_Part_0 {A : Nat → Prop} {w : World} {b off : Nat} {x : know_Part} (h : El A w b off x) : El A w b (off + 0) x.kind := El.fst (El_know_Part_ h)

theorem El_know_Part_1 {A : Nat → Prop} {w : World} {b off : Nat} {x : know_Part} (h : El A w b off x) : El A w b (off + 1) x.not := El.fst (El.snd (El_know_Part_ h))

theorem El_know_Part_2 {A : Nat → Prop} {w : World} {b off : Nat} {x : know_Part} (h : El A w b off x) : El A w b (off + 2) x.words := El.snd (El.snd (El_know_Part_ h))

theorem El_know_Part {A : Nat → Prop} {w : World} {b off : Nat} {x : know_Part} (h : El A w b off x) : ∃ v1, At w b off [.int .i64 x.kind, .bool x.not, v1] ∧ Sl A w v1 x.words := by
  obtain ⟨h1, h2, cs, h3, h4⟩ := h
  obtain ⟨_, _, rfl, rfl, ⟨_, _, rfl, rfl, ⟨u1, rfl, g1⟩⟩⟩ := h3
  exact ⟨u1, h4, g1⟩

instance : GoT know_Query := GoT.of (β := (List know_Part)) fun x => (x.parts)

theorem El_know_Query_ {A : Nat → Prop} {w : World} {b off : Nat} {x : know_Query} (h : El A w b off x) : El (α := (List know_Part)) A w b off (x.parts) := h

theorem El_know_Query_0 {A : Nat → Prop} {w : World} {b off : Nat} {x : know_Query} (h : El A w b off x) : El A w b (off + 0) x.parts := (El_know_Query_ h)

theorem El_know_Query {A : Nat → Prop} {w : World} {b off : Nat} {x : know_Query} (h : El A w b off x) : ∃ v1, At w b off [v1] ∧ Sl A w v1 x.parts := by
  obtain ⟨h1, h2, cs, h3, h4⟩ := h
  obtain ⟨u1, rfl, g1⟩ := h3
  exact ⟨u1, h4, g1⟩

instance : GoT know_queryReader := GoT.of (β := ByteArray × Int) fun x => (x.s, x.at_)

instance : Flat know_queryReader := ⟨fun {A w A1 w1 cs x} h => Flat.flat (α := ByteArray × Int) (x := (x.s, x.at_)) (A := A) (w := w) h⟩

theorem El_know_queryReader_ {A : Nat → Prop} {w : World} {b off : Nat} {x : know_queryReader} (h : El A w b off x) : El (α := ByteArray × Int) A w b off (x.s, x.at_) := h

theorem El_know_queryReader_0 {A : Nat → Prop} {w : World} {b off : Nat} {x : know_queryReader} (h : El A w b off x) : El A w b (off + 0) x.s := El.fst (El_know_queryReader_ h)

theorem El_know_queryReader_1 {A : Nat → Prop} {w : World} {b off : Nat} {x : know_queryReader} (h : El A w b off x) : El A w b (off + 1) x.at_ := El.snd (El_know_queryReader_ h)

theorem El_know_queryReader {A : Nat → Prop} {w : World} {b off : Nat} {x : know_queryReader} (h : El A w b off x) : At w b off [.string x.s, .int .i64 x.at_] ∧ True := by
  obtain ⟨h1, h2, cs, h3, h4⟩ := h
  obtain ⟨_, _, rfl, rfl, rfl⟩ := h3
  exact ⟨h4, trivial⟩

set_option maxRecDepth 4000 in
set_option maxHeartbeats 4000000 in
theorem know_queryReader_is_c (w : World) {A : Nat → Prop} {B : Nat} (hB : B ≤ w.heap.size) (hA : ∀ b, w.heap.size ≤ b → A b) (r_ : know_queryReader) (b_r_ : Nat) (c : Int) {L : List Ob} (hH : Hp B A w (obC b_r_ [.string r_.s, .int .i64 r_.at_] 35 :: L)) {r : (Bool × know_queryReader)} (hm : know_queryReader_is r_ c = some r) : Ret Try.prog 12 #[.pointer (some ⟨b_r_, 0, none⟩), .int .u8 c] w fun v w' => ∃ A1 : Nat → Prop, v = .bool r.1 ∧ Hp B A1 w' (obC b_r_ [.string r.2.s, .int .i64 r.2.at_] 35 :: L) ∧ Tr B A w A1 w' := by
  unfold know_queryReader_is at hm
  refine enter Try.func12 rfl Try.ntmps12 rfl ?_
  have hK : Tr B A w A w := Tr.refl hA
  refine C_seq ?_
  refine C_region ?_
  refine V_y (Y_assign rfl) rfl rfl rfl ?_
  refine V_to (fun _ _ => rfl) ?_
  refine C_seq ?_
  refine C_seq ?_
  refine C_region_q Try_mixed (by kernel_rfl) ?_
  refine VQ_y (fun w' hw' => Y_move rfl) rfl rfl rfl ?_
  refine VQ_y (fun w' hw' => Y_nilCheck rfl) rfl rfl rfl ?_
  refine VQ_y (fun w' hw' => Y_fieldAddrC (off2 := 1) Try.underlying35 rfl Try.sizeOf3 (by decide) rfl rfl) rfl rfl rfl ?_
  refine VQ_y (fun w' hw' => Y_load ((World.cell?_of_block (hw'.block _ (World.block_lt_of_cell? _ _ (Hp.cell (j := 1) hH (i := 0) rfl rfl)))).trans (Hp.cell (j := 1) hH (i := 0) rfl rfl)) Try.isAgg3 rfl) rfl rfl rfl ?_
  refine VQ_y (fun w' hw' => Y_move rfl) rfl rfl rfl ?_
  refine VQ_y (fun w' hw' => Y_nilCheck rfl) rfl rfl rfl ?_
  refine VQ_y (fun w' hw' => Y_fieldAddrC (off2 := 0) Try.underlying35 rfl Try.sizeOf9 (by decide) rfl rfl) rfl rfl rfl ?_
  refine VQ_y (fun w' hw' => Y_load ((World.cell?_of_block (hw'.block _ (World.block_lt_of_cell? _ _ (Hp.cell (j := 0) hH (i := 0) rfl rfl)))).trans (Hp.cell (j := 0) hH (i := 0) rfl rfl)) Try.isAgg9 rfl) rfl rfl rfl ?_
  refine VQ_y (fun w' hw' => Y_lenStr rfl Try.underlying9 rfl) rfl rfl rfl ?_
  refine VQ_y (fun w' hw' => Y_lss rfl rfl) rfl rfl rfl ?_
  refine VQ_y (fun w' hw' => Y_move rfl) rfl rfl rfl ?_
  obtain ⟨s2, hs2, hm⟩ := Option.bind_eq_some_iff.1 hm
  refine VQ_cut 12 (fun _ : Unit => [(0, .pointer (some ⟨b_r_, 0, none⟩)), (27, .bool s2)]) (fun _ => True) ?_ ?_
  · simp only [List.take, List.drop]
    rcases Bool.eq_false_or_eq_true (decide (r_.at_ < (r_.s.size : Int))) with hc1 | hc1
    · rw [if_pos hc1] at hs2
      refine VQ_ge rfl rfl rfl hc1 ?_
      refine VQ_y (fun w' hw' => Y_move rfl) rfl rfl rfl ?_
      refine VQ_ge rfl rfl rfl hc1 ?_
      refine VQ_y (fun w' hw' => Y_nilCheck rfl) rfl rfl rfl ?_
      refine VQ_ge rfl rfl rfl hc1 ?_
      refine VQ_y (fun w' hw' => Y_fieldAddrC (off2 := 0) Try.underlying35 rfl Try.sizeOf9 (by decide) rfl rfl) rfl rfl rfl ?_
      refine VQ_ge rfl rfl rfl hc1 ?_
      refine VQ_y (fun w' hw' => Y_load ((World.cell?_of_block (hw'.block _ (World.block_lt_of_cell? _ _ (Hp.cell (j := 0) hH (i := 0) rfl rfl)))).trans (Hp.cell (j := 0) hH (i := 0) rfl rfl)) Try.isAgg9 rfl) rfl rfl rfl ?_
      refine VQ_ge rfl rfl rfl hc1 ?_
      refine VQ_y (fun w' hw' => Y_move rfl) rfl rfl rfl ?_
      refine VQ_ge rfl rfl rfl hc1 ?_
      refine VQ_y (fun w' hw' => Y_nilCheck rfl) rfl rfl rfl ?_
      refine VQ_ge rfl rfl rfl hc1 ?_
      refine VQ_y (fun w' hw' => Y_fieldAddrC (off2 := 1) Try.underlying35 rfl Try.sizeOf3 (by decide) rfl rfl) rfl rfl rfl ?_
      refine VQ_ge rfl rfl rfl hc1 ?_
      refine VQ_y (fun w' hw' => Y_load ((World.cell?_of_block (hw'.block _ (World.block_lt_of_cell? _ _ (Hp.cell (j := 1) hH (i := 0) rfl rfl)))).trans (Hp.cell (j := 1) hH (i := 0) rfl rfl)) Try.isAgg3 rfl) rfl rfl rfl ?_
      refine VQ_ge rfl rfl rfl hc1 ?_
      obtain ⟨x3, hx3, hs2⟩ := Option.bind_eq_some_iff.1 hs2
      refine VQ_y (fun w' hw' => Y_indexS hx3 Try.underlying9 rfl rfl) rfl rfl rfl ?_
      refine VQ_ge rfl rfl rfl hc1 ?_
      refine VQ_y (fun w' hw' => Y_move rfl) rfl rfl rfl ?_
      refine VQ_ge rfl rfl rfl hc1 ?_
      refine VQ_y (fun w' hw' => Y_eql rfl rfl) rfl rfl rfl ?_
      refine VQ_y (fun _ _ => Y_pick_te rfl hc1 rfl) rfl rfl rfl ?_
      obtain rfl := Option.some.inj hs2
      exact VQ_end fun a ha => ⟨(), ha.sub ⟨rfl, rfl, trivial⟩, trivial⟩
    · rw [if_neg (nt hc1)] at hs2
      refine VQ_gn rfl rfl rfl hc1 rfl rfl rfl ?_
      refine VQ_gn rfl rfl rfl hc1 rfl rfl rfl ?_
      refine VQ_gn rfl rfl rfl hc1 rfl rfl rfl ?_
      refine VQ_gn rfl rfl rfl hc1 rfl rfl rfl ?_
      refine VQ_gn rfl rfl rfl hc1 rfl rfl rfl ?_
      refine VQ_gn rfl rfl rfl hc1 rfl rfl rfl ?_
      refine VQ_gn rfl rfl rfl hc1 rfl rfl rfl ?_
      refine VQ_gn rfl rfl rfl hc1 rfl rfl rfl ?_
      refine VQ_gn rfl rfl rfl hc1 rfl rfl rfl ?_
      refine VQ_gn rfl rfl rfl hc1 rfl rfl rfl ?_
      refine VQ_gn rfl rfl rfl hc1 rfl rfl rfl ?_
      refine VQ_y (fun _ _ => Y_pick_fe rfl hc1 rfl) rfl rfl rfl ?_
      obtain rfl := Option.some.inj hs2
      exact VQ_end fun a ha => ⟨(), ha.sub ⟨rfl, rfl, trivial⟩, trivial⟩
  simp only [List.take, List.drop]
  rintro _ _
  refine VQ_to (fun _ _ => rfl) (fun w4 hk5 => ?_)
  have ht6 := Kp.tr hk5 hA hB
  replace hH := Hp.kp hH hk5
  replace hK := Tr.trans hK ht6
  replace hB := Nat.le_trans hB ht6.ex.size
  replace hA := ht6.new
  refine C_cond rfl (fun hc7 => ?_) (fun hc7 => ?_)
  · rw [if_pos hc7] at hm
    refine C_seq ?_
    refine C_region ?_
    refine V_y (Y_move rfl) rfl rfl rfl ?_
    refine V_y (Y_nilCheck rfl) rfl rfl rfl ?_
    refine V_y (Y_fieldAddrC (off2 := 1) Try.underlying35 rfl Try.sizeOf3 (by decide) rfl rfl) rfl rfl rfl ?_
    refine V_y (Y_load (Hp.cell (j := 1) hH (i := 0) rfl rfl) Try.isAgg3 rfl) rfl rfl rfl ?_
    refine V_y (Y_addI rfl rfl) rfl rfl rfl ?_
    refine V_y (Y_nilCheck rfl) rfl rfl rfl ?_
    refine V_y (Y_fieldAddrC (off2 := 1) Try.underlying35 rfl Try.sizeOf3 (by decide) rfl rfl) rfl rfl rfl ?_
    refine V_storeC (off := 1) (ds := [.string r_.s, .int .i64 (w64 (r_.at_ + 1))]) hH (i := 0) rfl Try.sizeOf3 rfl (Nat.le_of_ble_eq_true rfl) (by simp [Value.cells, Value.oneCell']) rfl hB hA rfl rfl ?_
    intro w9 hH10 ht11
    replace hK := Tr.trans hK ht11
    replace hB := Nat.le_trans hB ht11.ex.size
    replace hA := ht11.new
    replace hH : Hp B A w9 (obC b_r_ [.string r_.s, .int .i64 (w64 (r_.at_ + 1))] 35 :: L) := hH10
    refine V_to (fun _ _ => rfl) ?_
    refine C_seq ?_
    refine C_region ?_
    refine V_y (Y_assign rfl) rfl rfl rfl ?_
    refine V_to (fun _ _ => rfl) ?_
    obtain rfl := Option.some.inj hm
    refine C_ret ?_
    try simp only [↓inBlock_ret, ↓then_ret]
    exact retQ rfl (Res.one Try.results12 rfl) ⟨A, rfl, hH, hK⟩
  · rw [if_neg (nt hc7)] at hm
    refine C_skip_to (fun _ _ => rfl) ?_
    refine C_seq ?_
    refine C_region ?_
    refine V_y (Y_assign rfl) rfl rfl rfl ?_
    refine V_to (fun _ _ => rfl) ?_
    obtain rfl := Option.some.inj hm
    refine C_ret ?_
    try simp only [↓inBlock_ret, ↓then_ret]
    exact retQ rfl (Res.one Try.results12 rfl) ⟨A, rfl, hH, hK⟩

set_option maxRecDepth 4000 in
set_option maxHeartbeats 4000000 in
theorem know_queryReader_blanks_c (w : World) {A : Nat → Prop} {B : Nat} (hB : B ≤ w.heap.size) (hA : ∀ b, w.heap.size ≤ b → A b) (r_ : know_queryReader) (b_r_ : Nat) {L : List Ob} (hH : Hp B A w (obC b_r_ [.string r_.s, .int .i64 r_.at_] 35 :: L)) {r : know_queryReader} (hm : know_queryReader_blanks r_ = some r) : Ret Try.prog 10 #[.pointer (some ⟨b_r_, 0, none⟩)] w fun v w' => ∃ A1 : Nat → Prop, v = .tuple #[] ∧ Hp B A1 w' (obC b_r_ [.string r.s, .int .i64 r.at_] 35 :: L) ∧ Tr B A w A1 w' := by
  unfold know_queryReader_blanks at hm
  refine enter Try.func10 rfl Try.ntmps10 rfl ?_
  have hK : Tr B A w A w := Tr.refl hA
  obtain ⟨o1, ho1, hm⟩ := Option.bind_eq_some_iff.1 hm
  refine C_cutG (ι := (know_queryReader × (Nat → Prop))) (fun ⟨s2, A8⟩ => []) (fun ⟨s2, A8⟩ => fun w' => o1 = .fin s2 ∧ Hp B A8 w' (obC b_r_ [.string s2.s, .int .i64 s2.at_] 35 :: L) ∧ Tr B A w A8 w') ?_ ?_
  · refine C_block ?_
    refine C_while ho1 (fun s10 a w' => ∃ i : (Nat → Prop), Has ⟨4, [], none⟩ a ([(0, .pointer (some ⟨b_r_, 0, none⟩))]) ∧ Hp B i w' (obC b_r_ [.string s10.s, .int .i64 s10.at_] 35 :: L) ∧ Tr B A w i w') (fun a ha => ⟨A, ha.sub ⟨rfl, trivial⟩, ⟨hH, Tr.refl hA⟩⟩) ?_
    rintro K s10 a w11 ⟨A12, ha29, hH13, hr3⟩ K20
    refine C_of ?_ ha29
    replace hK := Tr.trans hK hr3
    replace hB := Nat.le_trans hB hr3.ex.size
    replace hA := hr3.new
    replace hH : Hp B A12 w11 (obC b_r_ [.string s10.s, .int .i64 s10.at_] 35 :: L) := hH13
    obtain ⟨x14, h15, h16⟩ := K20
    refine C_seq ?_
    refine C_seq ?_
    refine C_region ?_
    refine V_y (Y_move rfl) rfl rfl rfl ?_
    obtain ⟨x21, hx21, h15⟩ := Option.bind_eq_some_iff.1 h15
    refine V_call Try.call12 rfl rfl rfl rfl (know_queryReader_is_c w11 hB hA s10 b_r_ 32 hH hx21) ?_
    rintro _ w22 ⟨A23, rfl, hH24, ht25⟩
    replace hK := Tr.trans hK ht25
    replace hr3 := Tr.trans hr3 ht25
    replace hB := Nat.le_trans hB ht25.ex.size
    replace hA := ht25.new
    replace hH : Hp B A23 w22 (obC b_r_ [.string x21.2.s, .int .i64 x21.2.at_] 35 :: L) := hH24
    refine V_to (fun _ _ => rfl) ?_
    refine C_cond rfl (fun hc26 => ?_) (fun hc26 => ?_)
    · rw [if_pos hc26] at h15
      refine C_skip_to (fun _ _ => rfl) ?_
      refine C_block ?_
      obtain rfl := Option.some.inj h15
      refine C_skip (fun a ha27 => ?_)
      exact ⟨x21.2, h16, ⟨A23, ha27.sub ⟨rfl, trivial⟩, ⟨hH, hr3⟩⟩⟩
    · rw [if_neg (nt hc26)] at h15
      obtain rfl := Option.some.inj h15
      refine C_exit (fun a ha28 => ?_)
      exact ⟨(x21.2, A23), ha28.sub trivial, ⟨h16.symm, hH, hr3⟩⟩
  rintro ⟨s2, A8⟩ w5 ⟨rfl, hH9, hk6⟩ a ha7
  rw [Lp.andThen_fin] at hm
  replace hK := Tr.trans hK hk6
  replace hB := Nat.le_trans hB hk6.ex.size
  replace hA := hk6.new
  replace hH : Hp B A8 w5 (obC b_r_ [.string s2.s, .int .i64 s2.at_] 35 :: L) := hH9
  obtain rfl := Option.some.inj hm
  try simp only [↓inBlock_ret, ↓then_ret]
  exact normQ (retQ rfl (Res.zero Try.results10) ⟨A8, rfl, hH, hK⟩ a ha7)

set_option maxRecDepth 4000 in
set_option maxHeartbeats 4000000 in
theorem internal_stringslite_IndexByte_c (w : World) (s : ByteArray) (c : Int) : Ret Try.prog 54 #[.string s, .int .u8 c] w fun v w' => v = .int .i64 (internal_stringslite_IndexByte s c) ∧ w = w' := by
  generalize hm : internal_stringslite_IndexByte s c = r
  unfold internal_stringslite_IndexByte at hm
  refine enter Try.func54 rfl Try.ntmps54 rfl ?_
  refine C_seq ?_
  refine C_region ?_
  refine V_y (Y_assign rfl) rfl rfl rfl ?_
  refine V_to (fun _ _ => rfl) ?_
  refine C_seq ?_
  refine C_region ?_
  refine V_y (Y_move rfl) rfl rfl rfl ?_
  refine V_y (Y_move rfl) rfl rfl rfl ?_
  refine V_y (Y_ext Try_ext61 Try_extb61.1 Try_extb61.2 Try_extn61 Try_extf61 rfl rfl (run_indexByteS _ _ _)) rfl rfl rfl ?_
  refine V_y (Y_assign rfl) rfl rfl rfl ?_
  refine V_to (fun _ _ => rfl) ?_
  obtain rfl := hm
  refine C_ret ?_
  try simp only [↓inBlock_ret, ↓then_ret]
  exact retQ rfl (Res.one Try.results54 rfl) ⟨rfl, rfl⟩

set_option maxRecDepth 4000 in
set_option maxHeartbeats 4000000 in
theorem strings_IndexByte_c (w : World) (s : ByteArray) (c : Int) : Ret Try.prog 14 #[.string s, .int .u8 c] w fun v w' => v = .int .i64 (strings_IndexByte s c) ∧ w = w' := by
  generalize hm : strings_IndexByte s c = r
  unfold strings_IndexByte at hm
  refine enter Try.func14 rfl Try.ntmps14 rfl ?_
  refine C_seq ?_
  refine C_region ?_
  refine V_y (Y_assign rfl) rfl rfl rfl ?_
  refine V_to (fun _ _ => rfl) ?_
  refine C_seq ?_
  refine C_region ?_
  refine V_y (Y_move rfl) rfl rfl rfl ?_
  refine V_y (Y_move rfl) rfl rfl rfl ?_
  refine V_call Try.call54 rfl rfl rfl rfl (internal_stringslite_IndexByte_c w s c) ?_
  rintro _ _ ⟨rfl, rfl⟩
  refine V_y (Y_assign rfl) rfl rfl rfl ?_
  refine V_to (fun _ _ => rfl) ?_
  obtain rfl := hm
  refine C_ret ?_
  try simp only [↓inBlock_ret, ↓then_ret]
  exact retQ rfl (Res.one Try.results14 rfl) ⟨rfl, rfl⟩

set_option maxRecDepth 4000 in
set_option maxHeartbeats 4000000 in
theorem know_digit_c (w : World) (c : Int) : Ret Try.prog 60 #[.int .u8 c] w fun v w' => v = .bool (know_digit c) ∧ w = w' := by
  generalize hm : know_digit c = r
  unfold know_digit at hm
  refine enter Try.func60 rfl Try.ntmps60 rfl ?_
  refine C_seq ?_
  refine C_region ?_
  refine V_y (Y_assign rfl) rfl rfl rfl ?_
  refine V_to (fun _ _ => rfl) ?_
  refine C_seq ?_
  refine C_region ?_
  refine V_y (Y_move rfl) rfl rfl rfl ?_
  refine V_y (Y_geq rfl rfl) rfl rfl rfl ?_
  refine V_y (Y_move rfl) rfl rfl rfl ?_
  refine V_cut 3 (fun _ : Unit => [(8, .bool ((decide ((48 : Int) ≤ c)) && (decide (c ≤ 57))))]) (fun _ w' => w = w') ?_ ?_
  · simp only [List.take, List.drop]
    rcases Bool.eq_false_or_eq_true (decide ((48 : Int) ≤ c)) with hc1 | hc1
    · refine V_ge rfl rfl rfl hc1 ?_
      refine V_y (Y_move rfl) rfl rfl rfl ?_
      refine V_ge rfl rfl rfl hc1 ?_
      refine V_y (Y_leq rfl rfl) rfl rfl rfl ?_
      refine V_y (Y_pick_te rfl hc1 rfl) rfl rfl rfl ?_
      exact V_end fun a ha => ⟨(), ha.sub ⟨(by rw [hc1]; rfl), trivial⟩, rfl⟩
    · refine V_gn rfl rfl rfl hc1 rfl rfl rfl ?_
      refine V_gn rfl rfl rfl hc1 rfl rfl rfl ?_
      refine V_y (Y_pick_fe rfl hc1 rfl) rfl rfl rfl ?_
      exact V_end fun a ha => ⟨(), ha.sub ⟨(by rw [hc1]; rfl), trivial⟩, rfl⟩
  simp only [List.take, List.drop]
  rintro _ _ rfl
  refine V_y (Y_assign rfl) rfl rfl rfl ?_
  refine V_to (fun _ _ => rfl) ?_
  obtain rfl := hm
  refine C_ret ?_
  try simp only [↓inBlock_ret, ↓then_ret]
  exact retQ rfl (Res.one Try.results60 rfl) ⟨rfl, rfl⟩

set_option maxRecDepth 4000 in
set_option maxHeartbeats 4000000 in
theorem know_letter_c (w : World) (c : Int) : Ret Try.prog 59 #[.int .u8 c] w fun v w' => v = .bool (know_letter c) ∧ w = w' := by
  generalize hm : know_letter c = r
  unfold know_letter at hm
  refine enter Try.func59 rfl Try.ntmps59 rfl ?_
  refine C_seq ?_
  refine C_region ?_
  refine V_y (Y_assign rfl) rfl rfl rfl ?_
  refine V_to (fun _ _ => rfl) ?_
  refine C_seq ?_
  refine C_region ?_
  refine V_y (Y_move rfl) rfl rfl rfl ?_
  refine V_y (Y_geq rfl rfl) rfl rfl rfl ?_
  refine V_y (Y_move rfl) rfl rfl rfl ?_
  refine V_cut 3 (fun _ : Unit => [(0, .int .u8 c), (8, .bool ((decide ((97 : Int) ≤ c)) && (decide (c ≤ 122))))]) (fun _ w' => w = w') ?_ ?_
  · simp only [List.take, List.drop]
    rcases Bool.eq_false_or_eq_true (decide ((97 : Int) ≤ c)) with hc1 | hc1
    · refine V_ge rfl rfl rfl hc1 ?_
      refine V_y (Y_move rfl) rfl rfl rfl ?_
      refine V_ge rfl rfl rfl hc1 ?_
      refine V_y (Y_leq rfl rfl) rfl rfl rfl ?_
      refine V_y (Y_pick_te rfl hc1 rfl) rfl rfl rfl ?_
      exact V_end fun a ha => ⟨(), ha.sub ⟨rfl, (by rw [hc1]; rfl), trivial⟩, rfl⟩
    · refine V_gn rfl rfl rfl hc1 rfl rfl rfl ?_
      refine V_gn rfl rfl rfl hc1 rfl rfl rfl ?_
      refine V_y (Y_pick_fe rfl hc1 rfl) rfl rfl rfl ?_
      exact V_end fun a ha => ⟨(), ha.sub ⟨rfl, (by rw [hc1]; rfl), trivial⟩, rfl⟩
  simp only [List.take, List.drop]
  rintro _ _ rfl
  refine V_y (Y_move rfl) rfl rfl rfl ?_
  refine V_cut 7 (fun _ : Unit => [(16, .bool (((decide ((97 : Int) ≤ c)) && (decide (c ≤ 122))) || ((decide ((65 : Int) ≤ c)) && (decide (c ≤ 90)))))]) (fun _ w' => w = w') ?_ ?_
  · simp only [List.take, List.drop]
    rcases Bool.eq_false_or_eq_true (((decide ((97 : Int) ≤ c)) && (decide (c ≤ 122)))) with hc3 | hc3
    · refine V_gn rfl rfl rfl hc3 rfl rfl rfl ?_
      refine V_gn rfl rfl rfl hc3 rfl rfl rfl ?_
      refine V_gn rfl rfl rfl hc3 rfl rfl rfl ?_
      refine V_gu rfl rfl rfl rfl rfl ?_
      refine V_gu rfl rfl rfl rfl rfl ?_
      refine V_gn rfl rfl rfl hc3 rfl rfl rfl ?_
      refine V_y (Y_pick_te rfl hc3 rfl) rfl rfl rfl ?_
      exact V_end fun a ha => ⟨(), ha.sub ⟨(by rw [hc3]; rfl), trivial⟩, rfl⟩
    · refine V_ge rfl rfl rfl hc3 ?_
      refine V_y (Y_move rfl) rfl rfl rfl ?_
      refine V_ge rfl rfl rfl hc3 ?_
      refine V_y (Y_geq rfl rfl) rfl rfl rfl ?_
      refine V_ge rfl rfl rfl hc3 ?_
      refine V_y (Y_move rfl) rfl rfl rfl ?_
      refine V_cut 3 (fun _ : Unit => [(9, .bool ((decide ((97 : Int) ≤ c)) && (decide (c ≤ 122)))), (15, .bool ((decide ((65 : Int) ≤ c)) && (decide (c ≤ 90))))]) (fun _ w' => w = w') ?_ ?_
      · simp only [List.take, List.drop]
        rcases Bool.eq_false_or_eq_true (decide ((65 : Int) ≤ c)) with hc5 | hc5
        · refine V_ge rfl rfl rfl hc5 ?_
          refine V_y (Y_move rfl) rfl rfl rfl ?_
          refine V_ge rfl rfl rfl hc5 ?_
          refine V_y (Y_leq rfl rfl) rfl rfl rfl ?_
          refine V_ge rfl rfl rfl hc3 ?_
          refine V_y (Y_pick_te rfl hc5 rfl) rfl rfl rfl ?_
          exact V_end fun a ha => ⟨(), ha.sub ⟨rfl, (by rw [hc5]; rfl), trivial⟩, rfl⟩
        · refine V_gn rfl rfl rfl hc5 rfl rfl rfl ?_
          refine V_gn rfl rfl rfl hc5 rfl rfl rfl ?_
          refine V_ge rfl rfl rfl hc3 ?_
          refine V_y (Y_pick_fe rfl hc5 rfl) rfl rfl rfl ?_
          exact V_end fun a ha => ⟨(), ha.sub ⟨rfl, (by rw [hc5]; rfl), trivial⟩, rfl⟩
      simp only [List.take, List.drop]
      rintro _ _ rfl
      refine V_y (Y_pick_fe rfl hc3 rfl) rfl rfl rfl ?_
      exact V_end fun a ha => ⟨(), ha.sub ⟨(by rw [hc3]; rfl), trivial⟩, rfl⟩
  simp only [List.take, List.drop]
  rintro _ _ rfl
  refine V_y (Y_assign rfl) rfl rfl rfl ?_
  refine V_to (fun _ _ => rfl) ?_
  obtain rfl := hm
  refine C_ret ?_
  try simp only [↓inBlock_ret, ↓then_ret]
  exact retQ rfl (Res.one Try.results59 rfl) ⟨rfl, rfl⟩

set_option maxRecDepth 4000 in
set_option maxHeartbeats 4000000 in
theorem know_inWord_c (w : World) (c : Int) : Ret Try.prog 52 #[.int .u8 c] w fun v w' => v = .bool (know_inWord c) ∧ w = w' := by
  generalize hm : know_inWord c = r
  unfold know_inWord at hm
  refine enter Try.func52 rfl Try.ntmps52 rfl ?_
  refine C_seq ?_
  refine C_region ?_
  refine V_y (Y_assign rfl) rfl rfl rfl ?_
  refine V_to (fun _ _ => rfl) ?_
  refine C_seq ?_
  refine C_region ?_
  refine V_y (Y_move rfl) rfl rfl rfl ?_
  refine V_call Try.call59 rfl rfl rfl rfl (know_letter_c w c) ?_
  rintro _ _ ⟨rfl, rfl⟩
  refine V_y (Y_move rfl) rfl rfl rfl ?_
  refine V_cut 3 (fun _ : Unit => [(0, .int .u8 c), (8, .bool ((know_letter c) || (know_digit c)))]) (fun _ w' => w = w') ?_ ?_
  · simp only [List.take, List.drop]
    rcases Bool.eq_false_or_eq_true ((know_letter c)) with hc1 | hc1
    · refine V_gn rfl rfl rfl hc1 rfl rfl rfl ?_
      refine V_gn rfl rfl rfl hc1 rfl rfl rfl ?_
      refine V_y (Y_pick_te rfl hc1 rfl) rfl rfl rfl ?_
      exact V_end fun a ha => ⟨(), ha.sub ⟨rfl, (by rw [hc1]; rfl), trivial⟩, rfl⟩
    · refine V_ge rfl rfl rfl hc1 ?_
      refine V_y (Y_move rfl) rfl rfl rfl ?_
      refine V_ge rfl rfl rfl hc1 ?_
      refine V_call Try.call60 rfl rfl rfl rfl (know_digit_c w c) ?_
      rintro _ _ ⟨rfl, rfl⟩
      refine V_y (Y_pick_fe rfl hc1 rfl) rfl rfl rfl ?_
      exact V_end fun a ha => ⟨(), ha.sub ⟨rfl, (by rw [hc1]; rfl), trivial⟩, rfl⟩
  simp only [List.take, List.drop]
  rintro _ _ rfl
  refine V_y (Y_move rfl) rfl rfl rfl ?_
  refine V_cut 3 (fun _ : Unit => [(12, .bool (((know_letter c) || (know_digit c)) || (decide ((128 : Int) ≤ c))))]) (fun _ w' => w = w') ?_ ?_
  · simp only [List.take, List.drop]
    rcases Bool.eq_false_or_eq_true (((know_letter c) || (know_digit c))) with hc3 | hc3
    · refine V_gn rfl rfl rfl hc3 rfl rfl rfl ?_
      refine V_gn rfl rfl rfl hc3 rfl rfl rfl ?_
      refine V_y (Y_pick_te rfl hc3 rfl) rfl rfl rfl ?_
      exact V_end fun a ha => ⟨(), ha.sub ⟨(by rw [hc3]; rfl), trivial⟩, rfl⟩
    · refine V_ge rfl rfl rfl hc3 ?_
      refine V_y (Y_move rfl) rfl rfl rfl ?_
      refine V_ge rfl rfl rfl hc3 ?_
      refine V_y (Y_geq rfl rfl) rfl rfl rfl ?_
      refine V_y (Y_pick_fe rfl hc3 rfl) rfl rfl rfl ?_
      exact V_end fun a ha => ⟨(), ha.sub ⟨(by rw [hc3]; rfl), trivial⟩, rfl⟩
  simp only [List.take, List.drop]
  rintro _ _ rfl
  refine V_y (Y_assign rfl) rfl rfl rfl ?_
  refine V_to (fun _ _ => rfl) ?_
  obtain rfl := hm
  refine C_ret ?_
  try simp only [↓inBlock_ret, ↓then_ret]
  exact retQ rfl (Res.one Try.results52 rfl) ⟨rfl, rfl⟩

set_option maxRecDepth 4000 in
set_option maxHeartbeats 4000000 in
theorem know_lower_c (w : World) {A : Nat → Prop} (hA : ∀ b, w.heap.size ≤ b → A b) (s : ByteArray) {r : ByteArray} (hm : know_lower s = some r) : Ret Try.prog 53 #[.string s] w fun v w' => v = .string r ∧ Kp w w' := by
  unfold know_lower at hm
  refine enter Try.func53 rfl Try.ntmps53 rfl ?_
  have hA0 := hA
  have hB := Nat.le_refl w.heap.size
  have hK : Tr w.heap.size A w A w := Tr.refl hA
  have hH : Hp w.heap.size A w [] := Hp.nil
  refine C_seq ?_
  refine C_region ?_
  refine V_y (Y_assign rfl) rfl rfl rfl ?_
  refine V_to (fun _ _ => rfl) ?_
  refine C_seq ?_
  refine C_region ?_
  refine V_y (Y_move rfl) rfl rfl rfl ?_
  obtain ⟨x1, hx1, hm⟩ := Option.bind_eq_some_iff.1 hm
  refine V_convU (e := 5) hH hx1 Try.underlying9 Try.underlying151 Try.underlying5 hB hA rfl rfl ?_
  intro v2 w3 A4 hH5 ht6
  replace hK := Tr.trans hK ht6
  replace hB := Nat.le_trans hB ht6.ex.size
  replace hA := ht6.new
  replace hH : Hp w.heap.size A4 w3 (obU 5 v2 x1 :: []) := hH5
  refine V_y (Y_assign rfl) rfl rfl rfl ?_
  refine V_to (fun _ _ => rfl) ?_
  refine C_seq ?_
  refine C_seq ?_
  refine C_region ?_
  refine V_y (Y_move rfl) rfl rfl rfl ?_
  refine V_y (Y_lenSl (Hp.anyU (e := 5) (v := v2) (l := x1) hH (i := 0) rfl) rfl Try.underlying151 rfl) rfl rfl rfl ?_
  refine V_y (Y_move rfl) rfl rfl rfl ?_
  refine V_to (fun _ _ => rfl) ?_
  have hn31 := Hp.leU (e := 5) (v := v2) (l := x1) hH (i := 0) rfl
  obtain ⟨o7, ho7, hm⟩ := Option.bind_eq_some_iff.1 hm
  refine C_cutG (ι := ((List UInt8) × Value × (Nat → Prop))) (fun ⟨s8, v14, A16⟩ => [(3, v14)]) (fun ⟨s8, v14, A16⟩ => fun w' => o7 = .fin s8 ∧ Hp w.heap.size A16 w' (obU 5 v14 s8 :: []) ∧ Tr w.heap.size A4 w3 A16 w') ?_ ?_
  · refine C_block ?_
    refine C_range ho7 (fun k10 s18 a w' => ∃ i : (Value × (Nat → Prop)), Has ⟨30, [], none⟩ a ([(3, i.1), (8, i.1), (9, .int .i64 (x1.length : Int)), (10, .int .i64 (k10 : Int))]) ∧ Hp w.heap.size i.2 w' (obU 5 i.1 s18 :: []) ∧ Tr w.heap.size A4 w3 i.2 w') (fun a ha => ⟨(v2, A4), ha.sub ⟨rfl, rfl, rfl, rfl, trivial⟩, ⟨hH, Tr.refl hA⟩⟩) ?_
    rintro K k10 s18 a w19 ⟨⟨v20, A22⟩, ha74, hH23, hr9⟩ hle27 K30 h29
    refine C_of ?_ ha74
    replace hK := Tr.trans hK hr9
    replace hB := Nat.le_trans hB hr9.ex.size
    replace hA := hr9.new
    replace hH : Hp w.heap.size A22 w19 (obU 5 v20 s18 :: []) := hH23
    refine C_seq (C_region (V_y (Y_lss rfl rfl) rfl rfl rfl (V_to (fun _ _ => rfl) ?_)))
    refine C_seq ?_
    refine C_cond rfl (fun hc32 => ?_) (fun hc32 => ?_)
    · have hlt28 := lt_of_dec hc32
      obtain ⟨x24, h25, h26⟩ := K30 hlt28
      refine C_skip_to (fun _ _ => rfl) ?_
      refine C_seq ?_
      obtain ⟨s34, ho33, h25⟩ := Option.bind_eq_some_iff.1 h25
      refine C_cutG (ι := (Value × (Nat → Prop))) (fun ⟨v36, A41⟩ => [(3, v36), (8, v36), (9, .int .i64 (x1.length : Int)), (10, .int .i64 (k10 : Int))]) (fun ⟨v36, A41⟩ => fun w' => Hp w.heap.size A41 w' (obU 5 v36 s34 :: []) ∧ Tr w.heap.size A22 w19 A41 w') ?_ ?_
      · have hr35 : Tr w.heap.size A22 w19 A22 w19 := Tr.refl hA
        refine C_block ?_
        refine C_seq ?_
        refine C_region ?_
        refine V_y (Y_move rfl) rfl rfl rfl ?_
        obtain ⟨x43, hx43, ho33⟩ := Option.bind_eq_some_iff.1 ho33
        refine V_indexAddrU (e := 5) (v := v20) (l := s18) hH (i := 0) rfl hx43 Try.underlying151 Try.sizeOf5 rfl rfl rfl ?_
        intro b44 o45 h46 hl47
        refine V_y (Y_load (El.u8 h46) Try.isAgg5 rfl) rfl rfl rfl ?_
        refine V_y (Y_assign rfl) rfl rfl rfl ?_
        refine V_y (Y_assign rfl) rfl rfl rfl ?_
        refine V_to (fun _ _ => rfl) ?_
        refine C_seq ?_
        refine C_region ?_
        refine V_y (Y_move rfl) rfl rfl rfl ?_
        refine V_y (Y_geq rfl rfl) rfl rfl rfl ?_
        refine V_y (Y_move rfl) rfl rfl rfl ?_
        refine V_cut 3 (fun _ : Unit => [(3, v20), (4, .int .i64 (k10 : Int)), (5, .int .u8 (x43.toNat : Int)), (8, v20), (9, .int .i64 (x1.length : Int)), (10, .int .i64 (k10 : Int)), (20, .bool ((decide ((65 : Int) ≤ (x43.toNat : Int))) && (decide ((x43.toNat : Int) ≤ 90))))]) (fun _ w' => w19 = w') ?_ ?_
        · simp only [List.take, List.drop]
          rcases Bool.eq_false_or_eq_true (decide ((65 : Int) ≤ (x43.toNat : Int))) with hc48 | hc48
          · refine V_ge rfl rfl rfl hc48 ?_
            refine V_y (Y_move rfl) rfl rfl rfl ?_
            refine V_ge rfl rfl rfl hc48 ?_
            refine V_y (Y_leq rfl rfl) rfl rfl rfl ?_
            refine V_y (Y_pick_te rfl hc48 rfl) rfl rfl rfl ?_
            exact V_end fun a ha => ⟨(), ha.sub ⟨rfl, rfl, rfl, rfl, rfl, rfl, (by rw [hc48]; rfl), trivial⟩, rfl⟩
          · refine V_gn rfl rfl rfl hc48 rfl rfl rfl ?_
            refine V_gn rfl rfl rfl hc48 rfl rfl rfl ?_
            refine V_y (Y_pick_fe rfl hc48 rfl) rfl rfl rfl ?_
            exact V_end fun a ha => ⟨(), ha.sub ⟨rfl, rfl, rfl, rfl, rfl, rfl, (by rw [hc48]; rfl), trivial⟩, rfl⟩
        simp only [List.take, List.drop]
        rintro _ _ rfl
        refine V_to (fun _ _ => rfl) ?_
        obtain ⟨s51, ho50, ho33⟩ := Option.bind_eq_some_iff.1 ho33
        refine C_cutG (ι := (Value × (Nat → Prop))) (fun ⟨v53, A58⟩ => [(3, v53), (8, v53), (9, .int .i64 (x1.length : Int)), (10, .int .i64 (k10 : Int))]) (fun ⟨v53, A58⟩ => fun w' => Hp w.heap.size A58 w' (obU 5 v53 s51 :: []) ∧ Tr w.heap.size A22 w19 A58 w') ?_ ?_
        · have hr52 : Tr w.heap.size A22 w19 A22 w19 := Tr.refl hA
          refine C_cond rfl (fun hc60 => ?_) (fun hc60 => ?_)
          · rw [if_pos hc60] at ho50
            refine C_region ?_
            refine V_y (Y_move rfl) rfl rfl rfl ?_
            refine V_y (Y_move rfl) rfl rfl rfl ?_
            refine V_y (Y_move rfl) rfl rfl rfl ?_
            refine V_y (Y_addB rfl rfl) rfl rfl rfl ?_
            refine V_y (Y_subB rfl rfl) rfl rfl rfl ?_
            refine V_indexAddrU (e := 5) (v := v20) (l := s18) hH (i := 0) rfl hx43 Try.underlying151 Try.sizeOf5 rfl rfl rfl ?_
            intro b61 o62 h63 hl64
            obtain ⟨x65, hx65, ho50⟩ := Option.bind_eq_some_iff.1 ho50
            refine V_storeU (e := 5) (v := v20) (l := s18) hH (i := 0) rfl hl64 hx65 rfl Try.sizeOf5 rfl hB hA rfl rfl ?_
            intro w66 hH67 ht68
            replace hK := Tr.trans hK ht68
            replace hr9 := Tr.trans hr9 ht68
            replace hr35 := Tr.trans hr35 ht68
            replace hr52 := Tr.trans hr52 ht68
            replace hB := Nat.le_trans hB ht68.ex.size
            replace hA := ht68.new
            replace hH : Hp w.heap.size A22 w66 (obU 5 v20 x65 :: []) := hH67
            obtain rfl := Option.some.inj ho50
            refine V_end (fun a ha69 => ?_)
            exact ⟨(v20, A22), ha69.sub ⟨rfl, rfl, rfl, rfl, trivial⟩, ⟨hH, hr52⟩⟩
          · rw [if_neg (nt hc60)] at ho50
            obtain rfl := Option.some.inj ho50
            refine C_skip (fun a ha70 => ?_)
            exact ⟨(v20, A22), ha70.sub ⟨rfl, rfl, rfl, rfl, trivial⟩, ⟨hH, hr52⟩⟩
        rintro ⟨v53, A58⟩ w55 ⟨hH59, hk56⟩ a ha57
        replace hK := Tr.trans hK hk56
        replace hr9 := Tr.trans hr9 hk56
        replace hr35 := Tr.trans hr35 hk56
        replace hB := Nat.le_trans hB hk56.ex.size
        replace hA := hk56.new
        replace hH : Hp w.heap.size A58 w55 (obU 5 v53 s51 :: []) := hH59
        obtain rfl := Option.some.inj ho33
        exact ⟨(v53, A58), ha57.sub ⟨rfl, rfl, rfl, rfl, trivial⟩, ⟨hH, hr35⟩⟩
      rintro ⟨v36, A41⟩ w38 ⟨hH42, hk39⟩ a ha40
      replace hK := Tr.trans hK hk39
      replace hr9 := Tr.trans hr9 hk39
      replace hB := Nat.le_trans hB hk39.ex.size
      replace hA := hk39.new
      replace hH : Hp w.heap.size A41 w38 (obU 5 v36 s34 :: []) := hH42
      refine C_at (n := ⟨30, [], none⟩) (fun _ _ => rfl) ?_ ha40
      refine C_region ?_
      refine V_y (Y_addI rfl rfl) rfl rfl rfl ?_
      refine V_y (Y_move rfl) rfl rfl rfl ?_
      obtain rfl := Option.some.inj h25
      refine V_end (fun a ha72 => ?_)
      exact ⟨s34, hlt28, h26, ⟨(v36, A41), ha72.sub ⟨rfl, rfl, rfl, (congrArg (fun z => some (Value.int .i64 z)) (w64_succ hlt28 hn31)), trivial⟩, ⟨hH, hr9⟩⟩⟩
    · refine C_exit (fun a ha73 => ?_)
      exact ⟨(s18, v20, A22), ha73.sub ⟨rfl, trivial⟩, ⟨(h29 (eq_of_dec hle27 hc32)).symm, hH, hr9⟩⟩
  rintro ⟨s8, v14, A16⟩ w11 ⟨rfl, hH17, hk12⟩ a ha13
  rw [Lp.andThen_fin] at hm
  replace hK := Tr.trans hK hk12
  replace hB := Nat.le_trans hB hk12.ex.size
  replace hA := hk12.new
  replace hH : Hp w.heap.size A16 w11 (obU 5 v14 s8 :: []) := hH17
  refine C_at (n := ⟨30, [], none⟩) (fun _ _ => rfl) ?_ ha13
  refine C_seq ?_
  refine C_region ?_
  refine V_y (Y_move rfl) rfl rfl rfl ?_
  obtain ⟨A75, ht76, h77, hH78⟩ := Hp.freezeU (v := v14) (l := s8) hH (i := 0) rfl hA
  replace hK := Tr.trans hK ht76
  replace hB := Nat.le_trans hB ht76.ex.size
  replace hA := ht76.new
  replace hH : Hp w.heap.size A75 w11 ([]) := hH78
  refine V_y (Y_convBS (l := s8) h77 Try.underlying151 Try.underlying5 Try.underlying9 rfl) rfl rfl rfl ?_
  refine V_y (Y_assign rfl) rfl rfl rfl ?_
  refine V_to (fun _ _ => rfl) ?_
  obtain rfl := Option.some.inj hm
  refine C_ret ?_
  try simp only [↓inBlock_ret, ↓then_ret]
  exact retQ rfl (Res.one Try.results53 rfl) ⟨rfl, hK.kp⟩

set_option maxRecDepth 4000 in
set_option maxHeartbeats 4000000 in
theorem know_Words_c (w : World) {A : Nat → Prop} (hA : ∀ b, w.heap.size ≤ b → A b) (s : ByteArray) {r : (List ByteArray)} (hm : know_Words s = some r) : Ret Try.prog 50 #[.string s] w fun v w' => ∃ s0, v = s0 ∧ Ownd 9 w w' s0 r ∧ Kp w w' := by
  unfold know_Words at hm
  refine enter Try.func50 rfl Try.ntmps50 rfl ?_
  have hA0 := hA
  have hB := Nat.le_refl w.heap.size
  have hK : Tr w.heap.size A w A w := Tr.refl hA
  have hH : Hp w.heap.size A w [] := Hp.nil
  refine C_seq ?_
  refine C_region ?_
  refine V_y (Y_assign rfl) rfl rfl rfl ?_
  refine V_to (fun _ _ => rfl) ?_
  refine C_seq ?_
  refine C_region ?_
  refine V_y (Y_assign rfl) rfl rfl rfl ?_
  refine V_to (fun _ _ => rfl) ?_
  refine C_seq ?_
  refine C_seq ?_
  refine C_region ?_
  refine V_y (Y_assign rfl) rfl rfl rfl ?_
  refine V_to (fun _ _ => rfl) ?_
  replace hH : Hp w.heap.size A w (obS (α := ByteArray) 9 (.slice none 0 0) ([] : (List ByteArray)) :: []) := Hp.addNil (α := ByteArray) (e := 9) hH
  obtain ⟨o1, ho1, hm⟩ := Option.bind_eq_some_iff.1 hm
  refine C_cutG (ι := (((List ByteArray) × Int) × Value × (Nat → Prop))) (fun ⟨s2, v8, A10⟩ => [(3, v8)]) (fun ⟨s2, v8, A10⟩ => fun w' => o1 = .fin s2 ∧ Hp w.heap.size A10 w' (obS (α := ByteArray) 9 v8 s2.1 :: []) ∧ Tr w.heap.size A w A10 w') ?_ ?_
  · refine C_block ?_
    refine C_while ho1 (fun s12 a w' => ∃ i : (Value × (Nat → Prop)), Has ⟨44, [], none⟩ a ([(0, .string s), (3, i.1), (4, .int .i64 s12.2)]) ∧ Hp w.heap.size i.2 w' (obS (α := ByteArray) 9 i.1 s12.1 :: []) ∧ Tr w.heap.size A w i.2 w') (fun a ha => ⟨(.slice none 0 0, A), ha.sub ⟨rfl, rfl, rfl, trivial⟩, ⟨hH, Tr.refl hA⟩⟩) ?_
    rintro K s12 a w13 ⟨⟨v14, A16⟩, ha83, hH17, hr3⟩ K24
    refine C_of ?_ ha83
    replace hK := Tr.trans hK hr3
    replace hB := Nat.le_trans hB hr3.ex.size
    replace hA := hr3.new
    replace hH : Hp w.heap.size A16 w13 (obS (α := ByteArray) 9 v14 s12.1 :: []) := hH17
    obtain ⟨x18, h19, h20⟩ := K24
    refine C_seq ?_
    refine C_seq ?_
    refine C_region ?_
    refine V_y (Y_move rfl) rfl rfl rfl ?_
    refine V_y (Y_move rfl) rfl rfl rfl ?_
    refine V_y (Y_lenStr rfl Try.underlying9 rfl) rfl rfl rfl ?_
    refine V_y (Y_lss rfl rfl) rfl rfl rfl ?_
    refine V_to (fun _ _ => rfl) ?_
    refine C_cond rfl (fun hc25 => ?_) (fun hc25 => ?_)
    · rw [if_pos hc25] at h19
      refine C_skip_to (fun _ _ => rfl) ?_
      refine C_seq ?_
      refine C_block ?_
      refine C_seq ?_
      refine C_region ?_
      refine V_y (Y_move rfl) rfl rfl rfl ?_
      refine V_y (Y_assign rfl) rfl rfl rfl ?_
      refine V_to (fun _ _ => rfl) ?_
      refine C_seq ?_
      obtain ⟨o26, ho26, h19⟩ := Option.bind_eq_some_iff.1 h19
      refine C_cutG (ι := Int) (fun (s27 : Int) => [(0, .string s), (3, v14), (4, .int .i64 s12.2), (5, .int .i64 s27)]) (fun (s27 : Int) => fun w' => o26 = .fin s27 ∧ w13 = w') ?_ ?_
      · refine C_block ?_
        refine C_while ho26 (fun s33 a w' => ∃ i : Unit, Has ⟨44, [], none⟩ a ([(0, .string s), (3, v14), (4, .int .i64 s12.2), (5, .int .i64 s33)]) ∧ w13 = w') (fun a ha => ⟨(), ha.sub ⟨rfl, rfl, rfl, rfl, trivial⟩, rfl⟩) ?_
        rintro K s33 a _ ⟨_, ha48, rfl⟩ K41
        refine C_of ?_ ha48
        obtain ⟨x35, h36, h37⟩ := K41
        refine C_seq ?_
        refine C_seq ?_
        refine C_region ?_
        refine V_y (Y_move rfl) rfl rfl rfl ?_
        refine V_y (Y_move rfl) rfl rfl rfl ?_
        refine V_y (Y_lenStr rfl Try.underlying9 rfl) rfl rfl rfl ?_
        refine V_y (Y_lss rfl rfl) rfl rfl rfl ?_
        refine V_y (Y_move rfl) rfl rfl rfl ?_
        obtain ⟨s43, hs43, h36⟩ := Option.bind_eq_some_iff.1 h36
        refine V_cut 5 (fun _ : Unit => [(0, .string s), (3, v14), (4, .int .i64 s12.2), (5, .int .i64 s33), (22, .bool s43)]) (fun _ w' => w13 = w') ?_ ?_
        · simp only [List.take, List.drop]
          rcases Bool.eq_false_or_eq_true (decide (s33 < (s.size : Int))) with hc42 | hc42
          · rw [if_pos hc42] at hs43
            refine V_ge rfl rfl rfl hc42 ?_
            refine V_y (Y_move rfl) rfl rfl rfl ?_
            refine V_ge rfl rfl rfl hc42 ?_
            refine V_y (Y_move rfl) rfl rfl rfl ?_
            refine V_ge rfl rfl rfl hc42 ?_
            obtain ⟨x44, hx44, hs43⟩ := Option.bind_eq_some_iff.1 hs43
            refine V_y (Y_indexS hx44 Try.underlying9 rfl rfl) rfl rfl rfl ?_
            refine V_ge rfl rfl rfl hc42 ?_
            refine V_call Try.call52 rfl rfl rfl rfl (know_inWord_c w13 (x44.toNat : Int)) ?_
            rintro _ _ ⟨rfl, rfl⟩
            refine V_y (Y_pick_te rfl hc42 rfl) rfl rfl rfl ?_
            obtain rfl := Option.some.inj hs43
            exact V_end fun a ha => ⟨(), ha.sub ⟨rfl, rfl, rfl, rfl, rfl, trivial⟩, rfl⟩
          · rw [if_neg (nt hc42)] at hs43
            refine V_gn rfl rfl rfl hc42 rfl rfl rfl ?_
            refine V_gn rfl rfl rfl hc42 rfl rfl rfl ?_
            refine V_gn rfl rfl rfl hc42 rfl rfl rfl ?_
            refine V_gn rfl rfl rfl hc42 rfl rfl rfl ?_
            refine V_y (Y_pick_fe rfl hc42 rfl) rfl rfl rfl ?_
            obtain rfl := Option.some.inj hs43
            exact V_end fun a ha => ⟨(), ha.sub ⟨rfl, rfl, rfl, rfl, rfl, trivial⟩, rfl⟩
        simp only [List.take, List.drop]
        rintro _ _ rfl
        refine V_to (fun _ _ => rfl) ?_
        refine C_cond rfl (fun hc45 => ?_) (fun hc45 => ?_)
        · rw [if_pos hc45] at h36
          refine C_skip_to (fun _ _ => rfl) ?_
          refine C_block ?_
          refine C_region ?_
          refine V_y (Y_move rfl) rfl rfl rfl ?_
          refine V_y (Y_addI rfl rfl) rfl rfl rfl ?_
          refine V_y (Y_assign rfl) rfl rfl rfl ?_
          obtain rfl := Option.some.inj h36
          refine V_end (fun a ha46 => ?_)
          exact ⟨w64 (s33 + 1), h37, ⟨(), ha46.sub ⟨rfl, rfl, rfl, rfl, trivial⟩, rfl⟩⟩
        · rw [if_neg (nt hc45)] at h36
          obtain rfl := Option.some.inj h36
          refine C_exit (fun a ha47 => ?_)
          exact ⟨s33, ha47.sub ⟨rfl, rfl, rfl, rfl, trivial⟩, ⟨h37.symm, rfl⟩⟩
      rintro s27 _ ⟨rfl, rfl⟩ a ha32
      rw [Lp.andThen_fin] at h19
      refine C_at (n := ⟨44, [], none⟩) (fun _ _ => rfl) ?_ ha32
      refine C_seq ?_
      refine C_seq ?_
      refine C_region ?_
      refine V_y (Y_move rfl) rfl rfl rfl ?_
      refine V_y (Y_move rfl) rfl rfl rfl ?_
      refine V_y (Y_gtr rfl rfl) rfl rfl rfl ?_
      refine V_y (Y_move rfl) rfl rfl rfl ?_
      refine V_cut 5 (fun _ : Unit => [(0, .string s), (3, v14), (4, .int .i64 s12.2), (5, .int .i64 s27), (33, .bool ((decide (s12.2 < s27)) && (decide ((w64 (s27 - s12.2)) ≤ 30))))]) (fun _ w' => w13 = w') ?_ ?_
      · simp only [List.take, List.drop]
        rcases Bool.eq_false_or_eq_true (decide (s12.2 < s27)) with hc49 | hc49
        · refine V_ge rfl rfl rfl hc49 ?_
          refine V_y (Y_move rfl) rfl rfl rfl ?_
          refine V_ge rfl rfl rfl hc49 ?_
          refine V_y (Y_move rfl) rfl rfl rfl ?_
          refine V_ge rfl rfl rfl hc49 ?_
          refine V_y (Y_subI rfl rfl) rfl rfl rfl ?_
          refine V_ge rfl rfl rfl hc49 ?_
          refine V_y (Y_leq rfl rfl) rfl rfl rfl ?_
          refine V_y (Y_pick_te rfl hc49 rfl) rfl rfl rfl ?_
          exact V_end fun a ha => ⟨(), ha.sub ⟨rfl, rfl, rfl, rfl, (by rw [hc49]; rfl), trivial⟩, rfl⟩
        · refine V_gn rfl rfl rfl hc49 rfl rfl rfl ?_
          refine V_gn rfl rfl rfl hc49 rfl rfl rfl ?_
          refine V_gn rfl rfl rfl hc49 rfl rfl rfl ?_
          refine V_gn rfl rfl rfl hc49 rfl rfl rfl ?_
          refine V_y (Y_pick_fe rfl hc49 rfl) rfl rfl rfl ?_
          exact V_end fun a ha => ⟨(), ha.sub ⟨rfl, rfl, rfl, rfl, (by rw [hc49]; rfl), trivial⟩, rfl⟩
      simp only [List.take, List.drop]
      rintro _ _ rfl
      refine V_to (fun _ _ => rfl) ?_
      obtain ⟨s52, ho51, h19⟩ := Option.bind_eq_some_iff.1 h19
      refine C_cutG (ι := (Value × (Nat → Prop))) (fun ⟨v54, A59⟩ => [(0, .string s), (3, v54), (5, .int .i64 s27)]) (fun ⟨v54, A59⟩ => fun w' => Hp w.heap.size A59 w' (obS (α := ByteArray) 9 v54 s52 :: []) ∧ Tr w.heap.size A16 w13 A59 w') ?_ ?_
      · have hr53 : Tr w.heap.size A16 w13 A16 w13 := Tr.refl hA
        refine C_cond rfl (fun hc61 => ?_) (fun hc61 => ?_)
        · rw [if_pos hc61] at ho51
          refine C_region ?_
          refine V_y (Y_move rfl) rfl rfl rfl ?_
          refine V_y (Y_move rfl) rfl rfl rfl ?_
          refine V_y (Y_move rfl) rfl rfl rfl ?_
          refine V_y (Y_move rfl) rfl rfl rfl ?_
          obtain ⟨x62, hx62, ho51⟩ := Option.bind_eq_some_iff.1 ho51
          refine V_y (Y_sliceSLH hx62 Try.underlying9 rfl rfl rfl) rfl rfl rfl ?_
          obtain ⟨x63, hx63, ho51⟩ := Option.bind_eq_some_iff.1 ho51
          refine V_call Try.call53 rfl rfl rfl rfl (know_lower_c w13 hA x62 hx63) ?_
          rintro _ w65 ⟨rfl, hk66⟩
          have ht67 := Kp.tr hk66 hA hB
          replace hH := Hp.kp hH hk66
          replace hK := Tr.trans hK ht67
          replace hr3 := Tr.trans hr3 ht67
          replace hr53 := Tr.trans hr53 ht67
          replace hB := Nat.le_trans hB ht67.ex.size
          replace hA := ht67.new
          refine V_buildSlice (l := ([x63] : List ByteArray)) (len := 1) Try.underlying36 Try.sizeOf9 Try.zeroValue9 rfl (by with_unfolding_all rfl) (by decide) (by decide) hA ⟨[.string x63], _, rfl, rfl, rfl⟩ rfl rfl ?_
          intro v68 w69 hk71 h70
          have ht72 := Kp.tr hk71 hA hB
          replace hH := Hp.kp hH hk71
          replace hK := Tr.trans hK ht72
          replace hr3 := Tr.trans hr3 ht72
          replace hr53 := Tr.trans hr53 ht72
          replace hB := Nat.le_trans hB ht72.ex.size
          replace hA := ht72.new
          obtain ⟨x73, hx73, ho51⟩ := Option.bind_eq_some_iff.1 ho51
          refine V_appendH (e := 9) (v := v14) (l := s12.1) (ti := Try.t9) (bytes := 16) (lim := 8796093022208) hH (i := 0) rfl h70 hx73 Try.underlying36 Try_info9 rfl rfl rfl rfl (by decide) (by decide) (by decide) hB hA rfl rfl rfl ?_
          intro v74 w75 A76 hH77 ht78
          replace h70 := Sl.tr h70 ht78
          replace hK := Tr.trans hK ht78
          replace hr3 := Tr.trans hr3 ht78
          replace hr53 := Tr.trans hr53 ht78
          replace hB := Nat.le_trans hB ht78.ex.size
          replace hA := ht78.new
          replace hH : Hp w.heap.size A76 w75 (obS (α := ByteArray) 9 v74 x73 :: []) := hH77
          refine V_y (Y_assign rfl) rfl rfl rfl ?_
          obtain rfl := Option.some.inj ho51
          refine V_end (fun a ha79 => ?_)
          exact ⟨(v74, A76), ha79.sub ⟨rfl, rfl, rfl, trivial⟩, ⟨hH, hr53⟩⟩
        · rw [if_neg (nt hc61)] at ho51
          obtain rfl := Option.some.inj ho51
          refine C_skip (fun a ha80 => ?_)
          exact ⟨(v14, A16), ha80.sub ⟨rfl, rfl, rfl, trivial⟩, ⟨hH, hr53⟩⟩
      rintro ⟨v54, A59⟩ w56 ⟨hH60, hk57⟩ a ha58
      replace hK := Tr.trans hK hk57
      replace hr3 := Tr.trans hr3 hk57
      replace hB := Nat.le_trans hB hk57.ex.size
      replace hA := hk57.new
      replace hH : Hp w.heap.size A59 w56 (obS (α := ByteArray) 9 v54 s52 :: []) := hH60
      refine C_at (n := ⟨44, [], none⟩) (fun _ _ => rfl) ?_ ha58
      refine C_region ?_
      refine V_y (Y_move rfl) rfl rfl rfl ?_
      refine V_y (Y_assign rfl) rfl rfl rfl ?_
      refine V_to (fun _ _ => rfl) ?_
      refine C_region ?_
      refine V_y (Y_move rfl) rfl rfl rfl ?_
      refine V_y (Y_addI rfl rfl) rfl rfl rfl ?_
      refine V_y (Y_assign rfl) rfl rfl rfl ?_
      obtain rfl := Option.some.inj h19
      refine V_end (fun a ha81 => ?_)
      exact ⟨(s52, w64 (s27 + 1)), h20, ⟨(v54, A59), ha81.sub ⟨rfl, rfl, rfl, trivial⟩, ⟨hH, hr3⟩⟩⟩
    · rw [if_neg (nt hc25)] at h19
      obtain rfl := Option.some.inj h19
      refine C_exit (fun a ha82 => ?_)
      exact ⟨((s12.1, s12.2), v14, A16), ha82.sub ⟨rfl, trivial⟩, ⟨h20.symm, hH, hr3⟩⟩
  rintro ⟨s2, v8, A10⟩ w5 ⟨rfl, hH11, hk6⟩ a ha7
  rw [Lp.andThen_fin] at hm
  replace hK := Tr.trans hK hk6
  replace hB := Nat.le_trans hB hk6.ex.size
  replace hA := hk6.new
  replace hH : Hp w.heap.size A10 w5 (obS (α := ByteArray) 9 v8 s2.1 :: []) := hH11
  refine C_at (n := ⟨44, [], none⟩) (fun _ _ => rfl) ?_ ha7
  refine C_seq ?_
  refine C_region ?_
  refine V_y (Y_move rfl) rfl rfl rfl ?_
  refine V_y (Y_assign rfl) rfl rfl rfl ?_
  refine V_to (fun _ _ => rfl) ?_
  obtain rfl := Option.some.inj hm
  refine C_ret ?_
  try simp only [↓inBlock_ret, ↓then_ret]
  exact retQ rfl (Res.one Try.results50 rfl) ⟨v8, rfl, (Hp.ownd hH (i := 0) rfl), hK.kp⟩

set_option maxRecDepth 4000 in
set_option maxHeartbeats 4000000 in
theorem know_queryReader_part_c (w : World) {A : Nat → Prop} {B : Nat} (hB : B ≤ w.heap.size) (hA : ∀ b, w.heap.size ≤ b → A b) (r_ : know_queryReader) (b_r_ : Nat) {L : List Ob} (hH : Hp B A w (obC b_r_ [.string r_.s, .int .i64 r_.at_] 35 :: L)) {r : (know_Part × Bool × know_queryReader)} (hm : know_queryReader_part r_ = some r) : Ret Try.prog 11 #[.pointer (some ⟨b_r_, 0, none⟩)] w fun v w' => ∃ s0, ∃ A1 : Nat → Prop, v = .tuple #[.agg #[.int .i64 r.1.kind, .bool r.1.not, s0], .bool r.2.1] ∧ Sl A1 w' s0 r.1.words ∧ Hp B A1 w' (obC b_r_ [.string r.2.2.s, .int .i64 r.2.2.at_] 35 :: L) ∧ Tr B A w A1 w' := by
  unfold know_queryReader_part at hm
  refine enter Try.func11 rfl Try.ntmps11 rfl ?_
  have hK : Tr B A w A w := Tr.refl hA
  refine C_seq ?_
  refine C_region ?_
  refine V_allocH (B := B) hH Try.zeroValue38 hB hA rfl ?_
  intro b1 w2 A3 hH4 ht5
  replace hK := Tr.trans hK ht5
  replace hB := Nat.le_trans hB ht5.ex.size
  replace hA := ht5.new
  replace hH : Hp B A3 w2 (obC b1 [.int .i64 0, .bool false, .slice none 0 0] 38 :: obC b_r_ [.string r_.s, .int .i64 r_.at_] 35 :: L) := hH4
  refine V_y (Y_assign rfl) rfl rfl rfl ?_
  refine V_to (fun _ _ => rfl) ?_
  refine C_seq ?_
  refine C_region ?_
  refine V_y (Y_move rfl) rfl rfl rfl ?_
  replace hH : Hp B A3 w2 (obC b_r_ [.string r_.s, .int .i64 r_.at_] 35 :: obC b1 [.int .i64 0, .bool false, .slice none 0 0] 38 :: L) := Hp.front hH (i := 1) rfl
  obtain ⟨x6, hx6, hm⟩ := Option.bind_eq_some_iff.1 hm
  refine V_call Try.call12 rfl rfl rfl rfl (know_queryReader_is_c w2 hB hA r_ b_r_ 45 hH hx6) ?_
  rintro _ w7 ⟨A8, rfl, hH9, ht10⟩
  replace hK := Tr.trans hK ht10
  replace hB := Nat.le_trans hB ht10.ex.size
  replace hA := ht10.new
  replace hH : Hp B A8 w7 (obC b_r_ [.string x6.2.s, .int .i64 x6.2.at_] 35 :: obC b1 [.int .i64 0, .bool false, .slice none 0 0] 38 :: L) := hH9
  refine V_y (Y_build Try.underlying38 Try.zeroValue38 (Try_places38 _ Try.underlying38) rfl (by with_unfolding_all rfl)) rfl rfl rfl ?_
  refine V_allocH (B := B) hH Try.zeroValue38 hB hA rfl ?_
  intro b11 w12 A13 hH14 ht15
  replace hK := Tr.trans hK ht15
  replace hB := Nat.le_trans hB ht15.ex.size
  replace hA := ht15.new
  replace hH : Hp B A13 w12 (obC b11 [.int .i64 0, .bool false, .slice none 0 0] 38 :: obC b_r_ [.string x6.2.s, .int .i64 x6.2.at_] 35 :: obC b1 [.int .i64 0, .bool false, .slice none 0 0] 38 :: L) := hH14
  refine V_storeC (off := 0) (ds := [.int .i64 0, .bool x6.1, .slice none 0 0]) hH (i := 0) rfl Try.sizeOf38 rfl (Nat.le_of_ble_eq_true rfl) (by exact (List.forall_mem_cons.2 ⟨rfl, (List.forall_mem_cons.2 ⟨rfl, (List.forall_mem_cons.2 ⟨rfl, (fun _ h => nomatch h)⟩)⟩)⟩)) rfl hB hA rfl rfl ?_
  intro w17 hH18 ht19
  replace hK := Tr.trans hK ht19
  replace hB := Nat.le_trans hB ht19.ex.size
  replace hA := ht19.new
  replace hH : Hp B A13 w17 (obC b11 [.int .i64 0, .bool x6.1, .slice none 0 0] 38 :: obC b_r_ [.string x6.2.s, .int .i64 x6.2.at_] 35 :: obC b1 [.int .i64 0, .bool false, .slice none 0 0] 38 :: L) := hH18
  refine V_to (fun _ _ => rfl) ?_
  refine C_seq ?_
  refine C_region ?_
  refine V_y (Y_move rfl) rfl rfl rfl ?_
  refine V_y (Y_nilCheck rfl) rfl rfl rfl ?_
  refine V_y (Y_fieldAddrC (off2 := 1) Try.underlying35 rfl Try.sizeOf3 (by decide) rfl rfl) rfl rfl rfl ?_
  refine V_y (Y_load (Hp.cell (j := 1) hH (i := 1) rfl rfl) Try.isAgg3 rfl) rfl rfl rfl ?_
  refine V_y (Y_assign rfl) rfl rfl rfl ?_
  refine V_to (fun _ _ => rfl) ?_
  refine C_seq ?_
  refine C_seq ?_
  refine C_region ?_
  refine V_y (Y_move rfl) rfl rfl rfl ?_
  replace hH : Hp B A13 w17 (obC b_r_ [.string x6.2.s, .int .i64 x6.2.at_] 35 :: obC b11 [.int .i64 0, .bool x6.1, .slice none 0 0] 38 :: obC b1 [.int .i64 0, .bool false, .slice none 0 0] 38 :: L) := Hp.front hH (i := 1) rfl
  obtain ⟨x20, hx20, hm⟩ := Option.bind_eq_some_iff.1 hm
  refine V_call Try.call12 rfl rfl rfl rfl (know_queryReader_is_c w17 hB hA x6.2 b_r_ 34 hH hx20) ?_
  rintro _ w21 ⟨A22, rfl, hH23, ht24⟩
  replace hK := Tr.trans hK ht24
  replace hB := Nat.le_trans hB ht24.ex.size
  replace hA := ht24.new
  replace hH : Hp B A22 w21 (obC b_r_ [.string x20.2.s, .int .i64 x20.2.at_] 35 :: obC b11 [.int .i64 0, .bool x6.1, .slice none 0 0] 38 :: obC b1 [.int .i64 0, .bool false, .slice none 0 0] 38 :: L) := hH23
  refine V_to (fun _ _ => rfl) ?_
  refine C_cond rfl (fun hc25 => ?_) (fun hc25 => ?_)
  · rw [if_pos hc25] at hm
    refine C_seq ?_
    refine C_region_q Try_mixed (by kernel_rfl) ?_
    refine VQ_y (fun w' hw' => Y_move rfl) rfl rfl rfl ?_
    refine VQ_y (fun w' hw' => Y_nilCheck rfl) rfl rfl rfl ?_
    refine VQ_y (fun w' hw' => Y_fieldAddrC (off2 := 0) Try.underlying35 rfl Try.sizeOf9 (by decide) rfl rfl) rfl rfl rfl ?_
    refine VQ_y (fun w' hw' => Y_load ((World.cell?_of_block (hw'.block _ (World.block_lt_of_cell? _ _ (Hp.cell (j := 0) hH (i := 0) rfl rfl)))).trans (Hp.cell (j := 0) hH (i := 0) rfl rfl)) Try.isAgg9 rfl) rfl rfl rfl ?_
    refine VQ_y (fun w' hw' => Y_move rfl) rfl rfl rfl ?_
    refine VQ_y (fun w' hw' => Y_nilCheck rfl) rfl rfl rfl ?_
    refine VQ_y (fun w' hw' => Y_fieldAddrC (off2 := 1) Try.underlying35 rfl Try.sizeOf3 (by decide) rfl rfl) rfl rfl rfl ?_
    refine VQ_y (fun w' hw' => Y_load ((World.cell?_of_block (hw'.block _ (World.block_lt_of_cell? _ _ (Hp.cell (j := 1) hH (i := 0) rfl rfl)))).trans (Hp.cell (j := 1) hH (i := 0) rfl rfl)) Try.isAgg3 rfl) rfl rfl rfl ?_
    obtain ⟨x26, hx26, hm⟩ := Option.bind_eq_some_iff.1 hm
    refine VQ_y (fun w' hw' => Y_sliceSL hx26 Try.underlying9 rfl rfl) rfl rfl rfl ?_
    refine VQ_call (.int .i64 (strings_IndexByte x26 34)) Try.call14 rfl rfl rfl rfl (fun w' hw' => (strings_IndexByte_c w' x26 34).mono (fun _ _ h => ⟨h.1, h.2 ▸ hw'⟩)) ?_
    refine VQ_y (fun w' hw' => Y_assign rfl) rfl rfl rfl ?_
    refine VQ_to (fun _ _ => rfl) (fun w27 hk28 => ?_)
    have ht29 := Kp.tr hk28 hA hB
    replace hH := Hp.kp hH hk28
    replace hK := Tr.trans hK ht29
    replace hB := Nat.le_trans hB ht29.ex.size
    replace hA := ht29.new
    refine C_seq ?_
    refine C_seq ?_
    refine C_region ?_
    refine V_y (Y_move rfl) rfl rfl rfl ?_
    refine V_y (Y_geq rfl rfl) rfl rfl rfl ?_
    refine V_to (fun _ _ => rfl) ?_
    obtain ⟨s31, ho30, hm⟩ := Option.bind_eq_some_iff.1 hm
    refine C_cutG (ι := (Value × (Nat → Prop))) (fun ⟨v33, A38⟩ => [(0, .pointer (some ⟨b_r_, 0, none⟩)), (2, .pointer (some ⟨b1, 0, none⟩)), (4, .pointer (some ⟨b11, 0, none⟩)), (5, .int .i64 x6.2.at_), (6, .int .i64 (strings_IndexByte x26 34))]) (fun ⟨v33, A38⟩ => fun w' => Sl A38 w' v33 s31.words ∧ Hp B A38 w' (obC b_r_ [.string x20.2.s, .int .i64 x20.2.at_] 35 :: obC b11 [.int .i64 s31.kind, .bool s31.not, v33] 38 :: obC b1 [.int .i64 0, .bool false, .slice none 0 0] 38 :: L) ∧ Tr B A22 w27 A38 w') ?_ ?_
    · have hr32 : Tr B A22 w27 A22 w27 := Tr.refl hA
      refine C_cond rfl (fun hc40 => ?_) (fun hc40 => ?_)
      · rw [if_pos hc40] at ho30
        refine C_region_ch A22 20 [(1, 0), (1, 1), (1, 2), (0, 3), (1, 4), (1, 5), (1, 6), (0, 7), (1, 8), (1, 9), (1, 10), (0, 11), (1, 12), (1, 13), (1, 14), (1, 16), (2, 15), (4, 17), (1, 18), (4, 19)] Try_mixed (by kernel_rfl) (fun w41 hk42 => ?_)
        have ht43 := Kp.tr hk42 hA hB
        replace hH := Hp.kp hH hk42
        replace hK := Tr.trans hK ht43
        replace hr32 := Tr.trans hr32 ht43
        replace hB := Nat.le_trans hB ht43.ex.size
        replace hA := ht43.new
        refine CH_q2 rfl ?_
        refine VQ_y (fun w' hw' => Y_move rfl) rfl rfl rfl ?_
        refine VQ_CH ?_
        refine CH_q2 rfl ?_
        refine VQ_y (fun w' hw' => Y_nilCheck rfl) rfl rfl rfl ?_
        refine VQ_CH ?_
        refine CH_q2 rfl ?_
        refine VQ_y (fun w' hw' => Y_fieldAddrC (off2 := 0) Try.underlying35 rfl Try.sizeOf9 (by decide) rfl rfl) rfl rfl rfl ?_
        refine VQ_CH ?_
        refine CH_q1 rfl ?_
        refine VQ_y (fun w' hw' => Y_load ((World.cell?_of_block (hw'.block _ (World.block_lt_of_cell? _ _ (Hp.cell (j := 0) hH (i := 0) rfl rfl)))).trans (Hp.cell (j := 0) hH (i := 0) rfl rfl)) Try.isAgg9 rfl) rfl rfl rfl ?_
        refine VQ_CH ?_
        refine CH_q2 rfl ?_
        refine VQ_y (fun w' hw' => Y_move rfl) rfl rfl rfl ?_
        refine VQ_CH ?_
        refine CH_q2 rfl ?_
        refine VQ_y (fun w' hw' => Y_nilCheck rfl) rfl rfl rfl ?_
        refine VQ_CH ?_
        refine CH_q2 rfl ?_
        refine VQ_y (fun w' hw' => Y_fieldAddrC (off2 := 1) Try.underlying35 rfl Try.sizeOf3 (by decide) rfl rfl) rfl rfl rfl ?_
        refine VQ_CH ?_
        refine CH_q1 rfl ?_
        refine VQ_y (fun w' hw' => Y_load ((World.cell?_of_block (hw'.block _ (World.block_lt_of_cell? _ _ (Hp.cell (j := 1) hH (i := 0) rfl rfl)))).trans (Hp.cell (j := 1) hH (i := 0) rfl rfl)) Try.isAgg3 rfl) rfl rfl rfl ?_
        refine VQ_CH ?_
        refine CH_q2 rfl ?_
        refine VQ_y (fun w' hw' => Y_move rfl) rfl rfl rfl ?_
        refine VQ_CH ?_
        refine CH_q2 rfl ?_
        refine VQ_y (fun w' hw' => Y_nilCheck rfl) rfl rfl rfl ?_
        refine VQ_CH ?_
        refine CH_q2 rfl ?_
        refine VQ_y (fun w' hw' => Y_fieldAddrC (off2 := 1) Try.underlying35 rfl Try.sizeOf3 (by decide) rfl rfl) rfl rfl rfl ?_
        refine VQ_CH ?_
        refine CH_q1 rfl ?_
        refine VQ_y (fun w' hw' => Y_load ((World.cell?_of_block (hw'.block _ (World.block_lt_of_cell? _ _ (Hp.cell (j := 1) hH (i := 0) rfl rfl)))).trans (Hp.cell (j := 1) hH (i := 0) rfl rfl)) Try.isAgg3 rfl) rfl rfl rfl ?_
        refine VQ_CH ?_
        refine CH_q2 rfl ?_
        refine VQ_y (fun w' hw' => Y_move rfl) rfl rfl rfl ?_
        refine VQ_CH ?_
        refine CH_q2 rfl ?_
        refine VQ_y (fun w' hw' => Y_addI rfl rfl) rfl rfl rfl ?_
        refine VQ_CH ?_
        refine CH_q2 rfl ?_
        obtain ⟨x44, hx44, ho30⟩ := Option.bind_eq_some_iff.1 ho30
        refine VQ_y (fun w' hw' => Y_sliceSLH hx44 Try.underlying9 rfl rfl rfl) rfl rfl rfl ?_
        refine VQ_CH ?_
        refine CH_q2 rfl ?_
        refine VQ_y (fun w' hw' => Y_fieldAddrC (off2 := 0) Try.underlying38 rfl Try.sizeOf3 (by decide) rfl rfl) rfl rfl rfl ?_
        refine VQ_CH ?_
        refine CH_l1 (k := 0) rfl ?_
        obtain ⟨x45, hx45, ho30⟩ := Option.bind_eq_some_iff.1 ho30
        refine V_call Try.call50 rfl rfl rfl rfl (know_Words_c w41 hA x44 hx45) ?_
        rintro v46 w48 ⟨_, rfl, h47, hk49⟩
        obtain ⟨A50, ht51, hH52⟩ := Hp.addOwnd hH hB hA hk49 h47
        replace hK := Tr.trans hK ht51
        replace hr32 := Tr.trans hr32 ht51
        replace hB := Nat.le_trans hB ht51.ex.size
        replace hA := ht51.new
        replace hH : Hp B A50 w48 (obS (α := ByteArray) 9 v46 x45 :: obC b_r_ [.string x20.2.s, .int .i64 x20.2.at_] 35 :: obC b11 [.int .i64 0, .bool x6.1, .slice none 0 0] 38 :: obC b1 [.int .i64 0, .bool false, .slice none 0 0] 38 :: L) := hH52
        refine V_CH (hk49) ?_
        refine CH_l1 (k := 2) rfl ?_
        refine V_storeC (off := 0) (ds := [.int .i64 1, .bool x6.1, .slice none 0 0]) hH (i := 2) rfl Try.sizeOf3 rfl (Nat.le_of_ble_eq_true rfl) (by simp [Value.cells, Value.oneCell']) rfl hB hA rfl rfl ?_
        intro w53 hH54 ht55
        replace hK := Tr.trans hK ht55
        replace hr32 := Tr.trans hr32 ht55
        replace hB := Nat.le_trans hB ht55.ex.size
        replace hA := ht55.new
        replace hH : Hp B A50 w53 (obS (α := ByteArray) 9 v46 x45 :: obC b_r_ [.string x20.2.s, .int .i64 x20.2.at_] 35 :: obC b11 [.int .i64 1, .bool x6.1, .slice none 0 0] 38 :: obC b1 [.int .i64 0, .bool false, .slice none 0 0] 38 :: L) := hH54
        refine V_CHw ?_
        refine CH_q2 rfl ?_
        refine VQ_y (fun w' hw' => Y_fieldAddrC (off2 := 2) Try.underlying38 rfl Try.sizeOf36 (by decide) rfl rfl) rfl rfl rfl ?_
        refine VQ_CH ?_
        refine CH_l1 (k := 2) rfl ?_
        obtain ⟨A56, ht57, h58, hH59⟩ := Hp.freeze (α := ByteArray) (v := v46) (l := x45) hH (i := 0) rfl hA
        replace hK := Tr.trans hK ht57
        replace hr32 := Tr.trans hr32 ht57
        replace hB := Nat.le_trans hB ht57.ex.size
        replace hA := ht57.new
        replace hH : Hp B A56 w53 (obC b_r_ [.string x20.2.s, .int .i64 x20.2.at_] 35 :: obC b11 [.int .i64 1, .bool x6.1, .slice none 0 0] 38 :: obC b1 [.int .i64 0, .bool false, .slice none 0 0] 38 :: L) := hH59
        have h66 : (v46).oneCell' = true := by obtain ⟨_, _, e, _⟩ := Sl.form h58; rw [e]; rfl
        refine V_storeC (off := 2) (ds := [.int .i64 1, .bool x6.1, v46]) hH (i := 1) rfl Try.sizeOf36 (by rw [← Array.length_toList, Value.cells_one h66]; rfl) (Nat.le_of_ble_eq_true rfl) (by intro u hu; rw [Value.cells_one h66] at hu; simp at hu; subst hu; assumption) (by rw [Value.cells_one h66]; rfl) hB hA rfl rfl ?_
        intro w61 hH62 ht63
        replace h58 := Sl.tr h58 ht63
        replace hK := Tr.trans hK ht63
        replace hr32 := Tr.trans hr32 ht63
        replace hB := Nat.le_trans hB ht63.ex.size
        replace hA := ht63.new
        replace hH : Hp B A56 w61 (obC b_r_ [.string x20.2.s, .int .i64 x20.2.at_] 35 :: obC b11 [.int .i64 1, .bool x6.1, v46] 38 :: obC b1 [.int .i64 0, .bool false, .slice none 0 0] 38 :: L) := hH62
        refine V_CHw ?_
        refine CH_tail ?_
        show V _ _ _ _ [] _ _
        obtain rfl := Option.some.inj ho30
        refine V_end (fun a ha67 => ?_)
        exact ⟨(v46, A56), ha67.sub ⟨rfl, rfl, rfl, rfl, rfl, trivial⟩, ⟨h58, hH, hr32⟩⟩
      · rw [if_neg (nt hc40)] at ho30
        obtain rfl := Option.some.inj ho30
        refine C_skip (fun a ha68 => ?_)
        exact ⟨(.slice none 0 0, A22), ha68.sub ⟨rfl, rfl, rfl, rfl, rfl, trivial⟩, ⟨Sl.nil, hH, hr32⟩⟩
    rintro ⟨v33, A38⟩ w35 ⟨h34, hH39, hk36⟩ a ha37
    replace hK := Tr.trans hK hk36
    replace hB := Nat.le_trans hB hk36.ex.size
    replace hA := hk36.new
    replace hH : Hp B A38 w35 (obC b_r_ [.string x20.2.s, .int .i64 x20.2.at_] 35 :: obC b11 [.int .i64 s31.kind, .bool s31.not, v33] 38 :: obC b1 [.int .i64 0, .bool false, .slice none 0 0] 38 :: L) := hH39
    refine C_at (n := ⟨127, [], none⟩) (fun _ _ => rfl) ?_ ha37
    refine C_seq ?_
    refine C_seq ?_
    refine C_region ?_
    refine V_y (Y_fieldAddrC (off2 := 2) Try.underlying38 rfl Try.sizeOf36 (by decide) rfl rfl) rfl rfl rfl ?_
    refine V_y (Y_load (Hp.cell (j := 2) hH (i := 1) rfl rfl) Try.isAgg36 rfl) rfl rfl rfl ?_
    refine V_y (Y_lenSl h34 rfl Try.underlying36 rfl) rfl rfl rfl ?_
    refine V_y (Y_eql rfl rfl) rfl rfl rfl ?_
    refine V_to (fun _ _ => rfl) ?_
    refine C_cond rfl (fun hc69 => ?_) (fun hc69 => ?_)
    · rw [if_pos hc69] at hm
      refine C_seq ?_
      refine C_region ?_
      refine V_y (Y_move rfl) rfl rfl rfl ?_
      refine V_y (Y_move rfl) rfl rfl rfl ?_
      refine V_y (Y_nilCheck rfl) rfl rfl rfl ?_
      refine V_y (Y_fieldAddrC (off2 := 1) Try.underlying35 rfl Try.sizeOf3 (by decide) rfl rfl) rfl rfl rfl ?_
      refine V_storeC (off := 1) (ds := [.string x20.2.s, .int .i64 x6.2.at_]) hH (i := 0) rfl Try.sizeOf3 rfl (Nat.le_of_ble_eq_true rfl) (by simp [Value.cells, Value.oneCell']) rfl hB hA rfl rfl ?_
      intro w70 hH71 ht72
      replace h34 := Sl.tr h34 ht72
      replace hK := Tr.trans hK ht72
      replace hB := Nat.le_trans hB ht72.ex.size
      replace hA := ht72.new
      replace hH : Hp B A38 w70 (obC b_r_ [.string x20.2.s, .int .i64 x6.2.at_] 35 :: obC b11 [.int .i64 s31.kind, .bool s31.not, v33] 38 :: obC b1 [.int .i64 0, .bool false, .slice none 0 0] 38 :: L) := hH71
      refine V_to (fun _ _ => rfl) ?_
      refine C_seq ?_
      refine C_region ?_
      refine V_y (Y_loadA (Hp.part (off := 0) (n := 3) (ds := [.int .i64 s31.kind, .bool s31.not, v33]) hH (i := 1) rfl rfl) Try.isAgg38 Try.sizeOf38 rfl) rfl rfl rfl ?_
      have h78 : (v33).oneCell' = true := by obtain ⟨_, _, e, _⟩ := Sl.form h34; rw [e]; rfl
      refine V_storeC (off := 0) (ds := [.int .i64 s31.kind, .bool s31.not, v33]) hH (i := 2) rfl Try.sizeOf38 rfl (Nat.le_of_ble_eq_true rfl) (by exact (List.forall_mem_cons.2 ⟨rfl, (List.forall_mem_cons.2 ⟨rfl, (List.forall_mem_cons.2 ⟨h78, (fun _ h => nomatch h)⟩)⟩)⟩)) rfl hB hA rfl rfl ?_
      intro w73 hH74 ht75
      replace h34 := Sl.tr h34 ht75
      replace hK := Tr.trans hK ht75
      replace hB := Nat.le_trans hB ht75.ex.size
      replace hA := ht75.new
      replace hH : Hp B A38 w73 (obC b_r_ [.string x20.2.s, .int .i64 x6.2.at_] 35 :: obC b11 [.int .i64 s31.kind, .bool s31.not, v33] 38 :: obC b1 [.int .i64 s31.kind, .bool s31.not, v33] 38 :: L) := hH74
      refine V_y (Y_assign rfl) rfl rfl rfl ?_
      refine V_to (fun _ _ => rfl) ?_
      obtain rfl := Option.some.inj hm
      have hv79 := loadVar_agg (Hp.part (off := 0) (n := 3) (ds := [.int .i64 s31.kind, .bool s31.not, v33]) hH (i := 2) rfl rfl) Try.isAgg38 Try.sizeOf38
      replace hH : Hp B A38 w73 (obC b_r_ [.string x20.2.s, .int .i64 x6.2.at_] 35 :: obC b1 [.int .i64 s31.kind, .bool s31.not, v33] 38 :: L) := Hp.drop hH (i := 1) rfl
      replace hH : Hp B A38 w73 (obC b_r_ [.string x20.2.s, .int .i64 x6.2.at_] 35 :: L) := Hp.drop hH (i := 1) rfl
      refine C_ret ?_
      try simp only [↓inBlock_ret, ↓then_ret]
      exact retQ rfl (Res.l2 Try.results11 (RL.cell rfl hv79) (RL.tmp rfl)) ⟨v33, A38, rfl, h34, hH, hK⟩
    · rw [if_neg (nt hc69)] at hm
      refine C_skip_to (fun _ _ => rfl) ?_
      refine C_seq ?_
      refine C_region ?_
      refine V_y (Y_move rfl) rfl rfl rfl ?_
      refine V_y (Y_nilCheck rfl) rfl rfl rfl ?_
      refine V_y (Y_fieldAddrC (off2 := 1) Try.underlying35 rfl Try.sizeOf3 (by decide) rfl rfl) rfl rfl rfl ?_
      refine V_y (Y_load (Hp.cell (j := 1) hH (i := 0) rfl rfl) Try.isAgg3 rfl) rfl rfl rfl ?_
      refine V_y (Y_move rfl) rfl rfl rfl ?_
      refine V_y (Y_addI rfl rfl) rfl rfl rfl ?_
      refine V_y (Y_addI rfl rfl) rfl rfl rfl ?_
      refine V_y (Y_nilCheck rfl) rfl rfl rfl ?_
      refine V_y (Y_fieldAddrC (off2 := 1) Try.underlying35 rfl Try.sizeOf3 (by decide) rfl rfl) rfl rfl rfl ?_
      refine V_storeC (off := 1) (ds := [.string x20.2.s, .int .i64 (w64 (x20.2.at_ + (w64 ((strings_IndexByte x26 34) + 1))))]) hH (i := 0) rfl Try.sizeOf3 rfl (Nat.le_of_ble_eq_true rfl) (by simp [Value.cells, Value.oneCell']) rfl hB hA rfl rfl ?_
      intro w80 hH81 ht82
      replace h34 := Sl.tr h34 ht82
      replace hK := Tr.trans hK ht82
      replace hB := Nat.le_trans hB ht82.ex.size
      replace hA := ht82.new
      replace hH : Hp B A38 w80 (obC b_r_ [.string x20.2.s, .int .i64 (w64 (x20.2.at_ + (w64 ((strings_IndexByte x26 34) + 1))))] 35 :: obC b11 [.int .i64 s31.kind, .bool s31.not, v33] 38 :: obC b1 [.int .i64 0, .bool false, .slice none 0 0] 38 :: L) := hH81
      refine V_to (fun _ _ => rfl) ?_
      refine C_seq ?_
      refine C_region ?_
      refine V_y (Y_loadA (Hp.part (off := 0) (n := 3) (ds := [.int .i64 s31.kind, .bool s31.not, v33]) hH (i := 1) rfl rfl) Try.isAgg38 Try.sizeOf38 rfl) rfl rfl rfl ?_
      have h88 : (v33).oneCell' = true := by obtain ⟨_, _, e, _⟩ := Sl.form h34; rw [e]; rfl
      refine V_storeC (off := 0) (ds := [.int .i64 s31.kind, .bool s31.not, v33]) hH (i := 2) rfl Try.sizeOf38 rfl (Nat.le_of_ble_eq_true rfl) (by exact (List.forall_mem_cons.2 ⟨rfl, (List.forall_mem_cons.2 ⟨rfl, (List.forall_mem_cons.2 ⟨h88, (fun _ h => nomatch h)⟩)⟩)⟩)) rfl hB hA rfl rfl ?_
      intro w83 hH84 ht85
      replace h34 := Sl.tr h34 ht85
      replace hK := Tr.trans hK ht85
      replace hB := Nat.le_trans hB ht85.ex.size
      replace hA := ht85.new
      replace hH : Hp B A38 w83 (obC b_r_ [.string x20.2.s, .int .i64 (w64 (x20.2.at_ + (w64 ((strings_IndexByte x26 34) + 1))))] 35 :: obC b11 [.int .i64 s31.kind, .bool s31.not, v33] 38 :: obC b1 [.int .i64 s31.kind, .bool s31.not, v33] 38 :: L) := hH84
      refine V_y (Y_assign rfl) rfl rfl rfl ?_
      refine V_to (fun _ _ => rfl) ?_
      obtain rfl := Option.some.inj hm
      have hv89 := loadVar_agg (Hp.part (off := 0) (n := 3) (ds := [.int .i64 s31.kind, .bool s31.not, v33]) hH (i := 2) rfl rfl) Try.isAgg38 Try.sizeOf38
      replace hH : Hp B A38 w83 (obC b_r_ [.string x20.2.s, .int .i64 (w64 (x20.2.at_ + (w64 ((strings_IndexByte x26 34) + 1))))] 35 :: obC b1 [.int .i64 s31.kind, .bool s31.not, v33] 38 :: L) := Hp.drop hH (i := 1) rfl
      replace hH : Hp B A38 w83 (obC b_r_ [.string x20.2.s, .int .i64 (w64 (x20.2.at_ + (w64 ((strings_IndexByte x26 34) + 1))))] 35 :: L) := Hp.drop hH (i := 1) rfl
      refine C_ret ?_
      try simp only [↓inBlock_ret, ↓then_ret]
      exact retQ rfl (Res.l2 Try.results11 (RL.cell rfl hv89) (RL.tmp rfl)) ⟨v33, A38, rfl, h34, hH, hK⟩
  · rw [if_neg (nt hc25)] at hm
    refine C_skip_to (fun _ _ => rfl) ?_
    refine C_seq ?_
    obtain ⟨o90, ho90, hm⟩ := Option.bind_eq_some_iff.1 hm
    refine C_cutG (ι := (know_queryReader × (Nat → Prop))) (fun ⟨s91, A97⟩ => [(0, .pointer (some ⟨b_r_, 0, none⟩)), (2, .pointer (some ⟨b1, 0, none⟩)), (4, .pointer (some ⟨b11, 0, none⟩)), (5, .int .i64 x6.2.at_)]) (fun ⟨s91, A97⟩ => fun w' => o90 = .fin s91 ∧ Hp B A97 w' (obC b_r_ [.string s91.s, .int .i64 s91.at_] 35 :: obC b11 [.int .i64 0, .bool x6.1, .slice none 0 0] 38 :: obC b1 [.int .i64 0, .bool false, .slice none 0 0] 38 :: L) ∧ Tr B A22 w21 A97 w') ?_ ?_
    · refine C_block ?_
      refine C_while ho90 (fun s99 a w' => ∃ i : (Nat → Prop), Has ⟨127, [], none⟩ a ([(0, .pointer (some ⟨b_r_, 0, none⟩)), (2, .pointer (some ⟨b1, 0, none⟩)), (4, .pointer (some ⟨b11, 0, none⟩)), (5, .int .i64 x6.2.at_)]) ∧ Hp B i w' (obC b_r_ [.string s99.s, .int .i64 s99.at_] 35 :: obC b11 [.int .i64 0, .bool x6.1, .slice none 0 0] 38 :: obC b1 [.int .i64 0, .bool false, .slice none 0 0] 38 :: L) ∧ Tr B A22 w21 i w') (fun a ha => ⟨A22, ha.sub ⟨rfl, rfl, rfl, rfl, trivial⟩, ⟨hH, Tr.refl hA⟩⟩) ?_
      rintro K s99 a w100 ⟨A101, ha124, hH102, hr92⟩ K109
      refine C_of ?_ ha124
      replace hK := Tr.trans hK hr92
      replace hB := Nat.le_trans hB hr92.ex.size
      replace hA := hr92.new
      replace hH : Hp B A101 w100 (obC b_r_ [.string s99.s, .int .i64 s99.at_] 35 :: obC b11 [.int .i64 0, .bool x6.1, .slice none 0 0] 38 :: obC b1 [.int .i64 0, .bool false, .slice none 0 0] 38 :: L) := hH102
      obtain ⟨x103, h104, h105⟩ := K109
      refine C_seq ?_
      refine C_seq ?_
      refine C_region_q Try_mixed (by kernel_rfl) ?_
      refine VQ_y (fun w' hw' => Y_move rfl) rfl rfl rfl ?_
      refine VQ_y (fun w' hw' => Y_nilCheck rfl) rfl rfl rfl ?_
      refine VQ_y (fun w' hw' => Y_fieldAddrC (off2 := 1) Try.underlying35 rfl Try.sizeOf3 (by decide) rfl rfl) rfl rfl rfl ?_
      refine VQ_y (fun w' hw' => Y_load ((World.cell?_of_block (hw'.block _ (World.block_lt_of_cell? _ _ (Hp.cell (j := 1) hH (i := 0) rfl rfl)))).trans (Hp.cell (j := 1) hH (i := 0) rfl rfl)) Try.isAgg3 rfl) rfl rfl rfl ?_
      refine VQ_y (fun w' hw' => Y_move rfl) rfl rfl rfl ?_
      refine VQ_y (fun w' hw' => Y_nilCheck rfl) rfl rfl rfl ?_
      refine VQ_y (fun w' hw' => Y_fieldAddrC (off2 := 0) Try.underlying35 rfl Try.sizeOf9 (by decide) rfl rfl) rfl rfl rfl ?_
      refine VQ_y (fun w' hw' => Y_load ((World.cell?_of_block (hw'.block _ (World.block_lt_of_cell? _ _ (Hp.cell (j := 0) hH (i := 0) rfl rfl)))).trans (Hp.cell (j := 0) hH (i := 0) rfl rfl)) Try.isAgg9 rfl) rfl rfl rfl ?_
      refine VQ_y (fun w' hw' => Y_lenStr rfl Try.underlying9 rfl) rfl rfl rfl ?_
      refine VQ_y (fun w' hw' => Y_lss rfl rfl) rfl rfl rfl ?_
      refine VQ_y (fun w' hw' => Y_move rfl) rfl rfl rfl ?_
      refine VQ_cut 8 (fun _ : Unit => [(0, .pointer (some ⟨b_r_, 0, none⟩)), (2, .pointer (some ⟨b1, 0, none⟩)), (4, .pointer (some ⟨b11, 0, none⟩)), (5, .int .i64 x6.2.at_), (83, .bool ((decide (s99.at_ < (s99.s.size : Int))) && (decide ((w64 (s99.at_ - x6.2.at_)) < 30))))]) (fun _ => True) ?_ ?_
      · simp only [List.take, List.drop]
        rcases Bool.eq_false_or_eq_true (decide (s99.at_ < (s99.s.size : Int))) with hc110 | hc110
        · refine VQ_ge rfl rfl rfl hc110 ?_
          refine VQ_y (fun w' hw' => Y_move rfl) rfl rfl rfl ?_
          refine VQ_ge rfl rfl rfl hc110 ?_
          refine VQ_y (fun w' hw' => Y_nilCheck rfl) rfl rfl rfl ?_
          refine VQ_ge rfl rfl rfl hc110 ?_
          refine VQ_y (fun w' hw' => Y_fieldAddrC (off2 := 1) Try.underlying35 rfl Try.sizeOf3 (by decide) rfl rfl) rfl rfl rfl ?_
          refine VQ_ge rfl rfl rfl hc110 ?_
          refine VQ_y (fun w' hw' => Y_load ((World.cell?_of_block (hw'.block _ (World.block_lt_of_cell? _ _ (Hp.cell (j := 1) hH (i := 0) rfl rfl)))).trans (Hp.cell (j := 1) hH (i := 0) rfl rfl)) Try.isAgg3 rfl) rfl rfl rfl ?_
          refine VQ_ge rfl rfl rfl hc110 ?_
          refine VQ_y (fun w' hw' => Y_move rfl) rfl rfl rfl ?_
          refine VQ_ge rfl rfl rfl hc110 ?_
          refine VQ_y (fun w' hw' => Y_subI rfl rfl) rfl rfl rfl ?_
          refine VQ_ge rfl rfl rfl hc110 ?_
          refine VQ_y (fun w' hw' => Y_lss rfl rfl) rfl rfl rfl ?_
          refine VQ_y (fun _ _ => Y_pick_te rfl hc110 rfl) rfl rfl rfl ?_
          exact VQ_end fun a ha => ⟨(), ha.sub ⟨rfl, rfl, rfl, rfl, (by rw [hc110]; rfl), trivial⟩, trivial⟩
        · refine VQ_gn rfl rfl rfl hc110 rfl rfl rfl ?_
          refine VQ_gn rfl rfl rfl hc110 rfl rfl rfl ?_
          refine VQ_gn rfl rfl rfl hc110 rfl rfl rfl ?_
          refine VQ_gn rfl rfl rfl hc110 rfl rfl rfl ?_
          refine VQ_gn rfl rfl rfl hc110 rfl rfl rfl ?_
          refine VQ_gn rfl rfl rfl hc110 rfl rfl rfl ?_
          refine VQ_gn rfl rfl rfl hc110 rfl rfl rfl ?_
          refine VQ_y (fun _ _ => Y_pick_fe rfl hc110 rfl) rfl rfl rfl ?_
          exact VQ_end fun a ha => ⟨(), ha.sub ⟨rfl, rfl, rfl, rfl, (by rw [hc110]; rfl), trivial⟩, trivial⟩
      simp only [List.take, List.drop]
      rintro _ _
      refine VQ_y (fun w' hw' => Y_move rfl) rfl rfl rfl ?_
      obtain ⟨s113, hs113, h104⟩ := Option.bind_eq_some_iff.1 h104
      refine VQ_cut 11 (fun _ : Unit => [(0, .pointer (some ⟨b_r_, 0, none⟩)), (2, .pointer (some ⟨b1, 0, none⟩)), (4, .pointer (some ⟨b11, 0, none⟩)), (5, .int .i64 x6.2.at_), (95, .bool s113)]) (fun _ => True) ?_ ?_
      · simp only [List.take, List.drop]
        rcases Bool.eq_false_or_eq_true (((decide (s99.at_ < (s99.s.size : Int))) && (decide ((w64 (s99.at_ - x6.2.at_)) < 30)))) with hc112 | hc112
        · rw [if_pos hc112] at hs113
          refine VQ_ge rfl rfl rfl hc112 ?_
          refine VQ_y (fun w' hw' => Y_move rfl) rfl rfl rfl ?_
          refine VQ_ge rfl rfl rfl hc112 ?_
          refine VQ_y (fun w' hw' => Y_nilCheck rfl) rfl rfl rfl ?_
          refine VQ_ge rfl rfl rfl hc112 ?_
          refine VQ_y (fun w' hw' => Y_fieldAddrC (off2 := 0) Try.underlying35 rfl Try.sizeOf9 (by decide) rfl rfl) rfl rfl rfl ?_
          refine VQ_ge rfl rfl rfl hc112 ?_
          refine VQ_y (fun w' hw' => Y_load ((World.cell?_of_block (hw'.block _ (World.block_lt_of_cell? _ _ (Hp.cell (j := 0) hH (i := 0) rfl rfl)))).trans (Hp.cell (j := 0) hH (i := 0) rfl rfl)) Try.isAgg9 rfl) rfl rfl rfl ?_
          refine VQ_ge rfl rfl rfl hc112 ?_
          refine VQ_y (fun w' hw' => Y_move rfl) rfl rfl rfl ?_
          refine VQ_ge rfl rfl rfl hc112 ?_
          refine VQ_y (fun w' hw' => Y_nilCheck rfl) rfl rfl rfl ?_
          refine VQ_ge rfl rfl rfl hc112 ?_
          refine VQ_y (fun w' hw' => Y_fieldAddrC (off2 := 1) Try.underlying35 rfl Try.sizeOf3 (by decide) rfl rfl) rfl rfl rfl ?_
          refine VQ_ge rfl rfl rfl hc112 ?_
          refine VQ_y (fun w' hw' => Y_load ((World.cell?_of_block (hw'.block _ (World.block_lt_of_cell? _ _ (Hp.cell (j := 1) hH (i := 0) rfl rfl)))).trans (Hp.cell (j := 1) hH (i := 0) rfl rfl)) Try.isAgg3 rfl) rfl rfl rfl ?_
          refine VQ_ge rfl rfl rfl hc112 ?_
          obtain ⟨x114, hx114, hs113⟩ := Option.bind_eq_some_iff.1 hs113
          refine VQ_y (fun w' hw' => Y_indexS hx114 Try.underlying9 rfl rfl) rfl rfl rfl ?_
          refine VQ_ge rfl rfl rfl hc112 ?_
          refine VQ_call (.bool (know_inWord (x114.toNat : Int))) Try.call52 rfl rfl rfl rfl (fun w' hw' => (know_inWord_c w' (x114.toNat : Int)).mono (fun _ _ h => ⟨h.1, h.2 ▸ hw'⟩)) ?_
          refine VQ_y (fun _ _ => Y_pick_te rfl hc112 rfl) rfl rfl rfl ?_
          obtain rfl := Option.some.inj hs113
          exact VQ_end fun a ha => ⟨(), ha.sub ⟨rfl, rfl, rfl, rfl, rfl, trivial⟩, trivial⟩
        · rw [if_neg (nt hc112)] at hs113
          refine VQ_gn rfl rfl rfl hc112 rfl rfl rfl ?_
          refine VQ_gn rfl rfl rfl hc112 rfl rfl rfl ?_
          refine VQ_gn rfl rfl rfl hc112 rfl rfl rfl ?_
          refine VQ_gn rfl rfl rfl hc112 rfl rfl rfl ?_
          refine VQ_gn rfl rfl rfl hc112 rfl rfl rfl ?_
          refine VQ_gn rfl rfl rfl hc112 rfl rfl rfl ?_
          refine VQ_gn rfl rfl rfl hc112 rfl rfl rfl ?_
          refine VQ_gn rfl rfl rfl hc112 rfl rfl rfl ?_
          refine VQ_gn rfl rfl rfl hc112 rfl rfl rfl ?_
          refine VQ_gn rfl rfl rfl hc112 rfl rfl rfl ?_
          refine VQ_y (fun _ _ => Y_pick_fe rfl hc112 rfl) rfl rfl rfl ?_
          obtain rfl := Option.some.inj hs113
          exact VQ_end fun a ha => ⟨(), ha.sub ⟨rfl, rfl, rfl, rfl, rfl, trivial⟩, trivial⟩
      simp only [List.take, List.drop]
      rintro _ _
      refine VQ_to (fun _ _ => rfl) (fun w115 hk116 => ?_)
      have ht117 := Kp.tr hk116 hA hB
      replace hH := Hp.kp hH hk116
      replace hK := Tr.trans hK ht117
      replace hr92 := Tr.trans hr92 ht117
      replace hB := Nat.le_trans hB ht117.ex.size
      replace hA := ht117.new
      refine C_cond rfl (fun hc118 => ?_) (fun hc118 => ?_)
      · rw [if_pos hc118] at h104
        refine C_skip_to (fun _ _ => rfl) ?_
        refine C_block ?_
        refine C_region ?_
        refine V_y (Y_move rfl) rfl rfl rfl ?_
        refine V_y (Y_nilCheck rfl) rfl rfl rfl ?_
        refine V_y (Y_fieldAddrC (off2 := 1) Try.underlying35 rfl Try.sizeOf3 (by decide) rfl rfl) rfl rfl rfl ?_
        refine V_y (Y_load (Hp.cell (j := 1) hH (i := 0) rfl rfl) Try.isAgg3 rfl) rfl rfl rfl ?_
        refine V_y (Y_addI rfl rfl) rfl rfl rfl ?_
        refine V_y (Y_nilCheck rfl) rfl rfl rfl ?_
        refine V_y (Y_fieldAddrC (off2 := 1) Try.underlying35 rfl Try.sizeOf3 (by decide) rfl rfl) rfl rfl rfl ?_
        refine V_storeC (off := 1) (ds := [.string s99.s, .int .i64 (w64 (s99.at_ + 1))]) hH (i := 0) rfl Try.sizeOf3 rfl (Nat.le_of_ble_eq_true rfl) (by simp [Value.cells, Value.oneCell']) rfl hB hA rfl rfl ?_
        intro w119 hH120 ht121
        replace hK := Tr.trans hK ht121
        replace hr92 := Tr.trans hr92 ht121
        replace hB := Nat.le_trans hB ht121.ex.size
        replace hA := ht121.new
        replace hH : Hp B A101 w119 (obC b_r_ [.string s99.s, .int .i64 (w64 (s99.at_ + 1))] 35 :: obC b11 [.int .i64 0, .bool x6.1, .slice none 0 0] 38 :: obC b1 [.int .i64 0, .bool false, .slice none 0 0] 38 :: L) := hH120
        obtain rfl := Option.some.inj h104
        refine V_end (fun a ha122 => ?_)
        exact ⟨(⟨s99.s, w64 (s99.at_ + 1)⟩ : know_queryReader), h105, ⟨A101, ha122.sub ⟨rfl, rfl, rfl, rfl, trivial⟩, ⟨hH, hr92⟩⟩⟩
      · rw [if_neg (nt hc118)] at h104
        obtain rfl := Option.some.inj h104
        refine C_exit (fun a ha123 => ?_)
        exact ⟨(s99, A101), ha123.sub ⟨rfl, rfl, rfl, rfl, trivial⟩, ⟨h105.symm, hH, hr92⟩⟩
    rintro ⟨s91, A97⟩ w94 ⟨rfl, hH98, hk95⟩ a ha96
    rw [Lp.andThen_fin] at hm
    replace hK := Tr.trans hK hk95
    replace hB := Nat.le_trans hB hk95.ex.size
    replace hA := hk95.new
    replace hH : Hp B A97 w94 (obC b_r_ [.string s91.s, .int .i64 s91.at_] 35 :: obC b11 [.int .i64 0, .bool x6.1, .slice none 0 0] 38 :: obC b1 [.int .i64 0, .bool false, .slice none 0 0] 38 :: L) := hH98
    refine C_at (n := ⟨127, [], none⟩) (fun _ _ => rfl) ?_ ha96
    refine C_seq ?_
    refine C_seq ?_
    refine C_region ?_
    refine V_y (Y_move rfl) rfl rfl rfl ?_
    refine V_y (Y_nilCheck rfl) rfl rfl rfl ?_
    refine V_y (Y_fieldAddrC (off2 := 1) Try.underlying35 rfl Try.sizeOf3 (by decide) rfl rfl) rfl rfl rfl ?_
    refine V_y (Y_load (Hp.cell (j := 1) hH (i := 0) rfl rfl) Try.isAgg3 rfl) rfl rfl rfl ?_
    refine V_y (Y_move rfl) rfl rfl rfl ?_
    refine V_y (Y_eql rfl rfl) rfl rfl rfl ?_
    refine V_to (fun _ _ => rfl) ?_
    refine C_cond rfl (fun hc125 => ?_) (fun hc125 => ?_)
    · rw [if_pos hc125] at hm
      refine C_seq ?_
      refine C_region ?_
      refine V_y (Y_loadA (Hp.part (off := 0) (n := 3) (ds := [.int .i64 0, .bool x6.1, .slice none 0 0]) hH (i := 1) rfl rfl) Try.isAgg38 Try.sizeOf38 rfl) rfl rfl rfl ?_
      refine V_storeC (off := 0) (ds := [.int .i64 0, .bool x6.1, .slice none 0 0]) hH (i := 2) rfl Try.sizeOf38 rfl (Nat.le_of_ble_eq_true rfl) (by exact (List.forall_mem_cons.2 ⟨rfl, (List.forall_mem_cons.2 ⟨rfl, (List.forall_mem_cons.2 ⟨rfl, (fun _ h => nomatch h)⟩)⟩)⟩)) rfl hB hA rfl rfl ?_
      intro w126 hH127 ht128
      replace hK := Tr.trans hK ht128
      replace hB := Nat.le_trans hB ht128.ex.size
      replace hA := ht128.new
      replace hH : Hp B A97 w126 (obC b_r_ [.string s91.s, .int .i64 s91.at_] 35 :: obC b11 [.int .i64 0, .bool x6.1, .slice none 0 0] 38 :: obC b1 [.int .i64 0, .bool x6.1, .slice none 0 0] 38 :: L) := hH127
      refine V_y (Y_assign rfl) rfl rfl rfl ?_
      refine V_to (fun _ _ => rfl) ?_
      obtain rfl := Option.some.inj hm
      have hv129 := loadVar_agg (Hp.part (off := 0) (n := 3) (ds := [.int .i64 0, .bool x6.1, .slice none 0 0]) hH (i := 2) rfl rfl) Try.isAgg38 Try.sizeOf38
      replace hH : Hp B A97 w126 (obC b_r_ [.string s91.s, .int .i64 s91.at_] 35 :: obC b1 [.int .i64 0, .bool x6.1, .slice none 0 0] 38 :: L) := Hp.drop hH (i := 1) rfl
      replace hH : Hp B A97 w126 (obC b_r_ [.string s91.s, .int .i64 s91.at_] 35 :: L) := Hp.drop hH (i := 1) rfl
      refine C_ret ?_
      try simp only [↓inBlock_ret, ↓then_ret]
      exact retQ rfl (Res.l2 Try.results11 (RL.cell rfl hv129) (RL.tmp rfl)) ⟨.slice none 0 0, A97, rfl, Sl.nil, hH, hK⟩
    · rw [if_neg (nt hc125)] at hm
      refine C_skip_to (fun _ _ => rfl) ?_
      refine C_seq ?_
      refine C_region_qt 11 Try_mixed (by kernel_rfl) ?_
      simp only [List.take, List.drop]
      refine VQ_y (fun w' hw' => Y_move rfl) rfl rfl rfl ?_
      refine VQ_y (fun w' hw' => Y_nilCheck rfl) rfl rfl rfl ?_
      refine VQ_y (fun w' hw' => Y_fieldAddrC (off2 := 0) Try.underlying35 rfl Try.sizeOf9 (by decide) rfl rfl) rfl rfl rfl ?_
      refine VQ_y (fun w' hw' => Y_load ((World.cell?_of_block (hw'.block _ (World.block_lt_of_cell? _ _ (Hp.cell (j := 0) hH (i := 0) rfl rfl)))).trans (Hp.cell (j := 0) hH (i := 0) rfl rfl)) Try.isAgg9 rfl) rfl rfl rfl ?_
      refine VQ_y (fun w' hw' => Y_move rfl) rfl rfl rfl ?_
      refine VQ_y (fun w' hw' => Y_move rfl) rfl rfl rfl ?_
      refine VQ_y (fun w' hw' => Y_nilCheck rfl) rfl rfl rfl ?_
      refine VQ_y (fun w' hw' => Y_fieldAddrC (off2 := 1) Try.underlying35 rfl Try.sizeOf3 (by decide) rfl rfl) rfl rfl rfl ?_
      refine VQ_y (fun w' hw' => Y_load ((World.cell?_of_block (hw'.block _ (World.block_lt_of_cell? _ _ (Hp.cell (j := 1) hH (i := 0) rfl rfl)))).trans (Hp.cell (j := 1) hH (i := 0) rfl rfl)) Try.isAgg3 rfl) rfl rfl rfl ?_
      obtain ⟨x130, hx130, hm⟩ := Option.bind_eq_some_iff.1 hm
      refine VQ_y (fun w' hw' => Y_sliceSLH hx130 Try.underlying9 rfl rfl rfl) rfl rfl rfl ?_
      obtain ⟨x131, hx131, hm⟩ := Option.bind_eq_some_iff.1 hm
      refine VQ_call (.string x131) Try.call53 rfl rfl rfl rfl (fun w' hw' => (know_lower_c w' (fun b hb => hA b (Nat.le_trans hw'.size hb)) x130 hx131).mono (fun _ _ h => ⟨h.1, Kp.trans hw' h.2⟩)) ?_
      refine VQ_tail (fun w132 hk133 => ?_)
      try simp only [List.take, List.drop]
      have ht134 := Kp.tr hk133 hA hB
      replace hH := Hp.kp hH hk133
      replace hK := Tr.trans hK ht134
      replace hB := Nat.le_trans hB ht134.ex.size
      replace hA := ht134.new
      refine V_buildSlice (l := ([x131] : List ByteArray)) (len := 1) Try.underlying36 Try.sizeOf9 Try.zeroValue9 rfl (by with_unfolding_all rfl) (by decide) (by decide) hA ⟨[.string x131], _, rfl, rfl, rfl⟩ rfl rfl ?_
      intro v135 w136 hk138 h137
      have ht139 := Kp.tr hk138 hA hB
      replace hH := Hp.kp hH hk138
      replace hK := Tr.trans hK ht139
      replace hB := Nat.le_trans hB ht139.ex.size
      replace hA := ht139.new
      refine V_y (Y_fieldAddrC (off2 := 2) Try.underlying38 rfl Try.sizeOf36 (by decide) rfl rfl) rfl rfl rfl ?_
      have h145 : (v135).oneCell' = true := by obtain ⟨_, _, e, _⟩ := Sl.form h137; rw [e]; rfl
      refine V_storeC (off := 2) (ds := [.int .i64 0, .bool x6.1, v135]) hH (i := 1) rfl Try.sizeOf36 (by rw [← Array.length_toList, Value.cells_one h145]; rfl) (Nat.le_of_ble_eq_true rfl) (by intro u hu; rw [Value.cells_one h145] at hu; simp at hu; subst hu; assumption) (by rw [Value.cells_one h145]; rfl) hB hA rfl rfl ?_
      intro w140 hH141 ht142
      replace h137 := Sl.tr h137 ht142
      replace hK := Tr.trans hK ht142
      replace hB := Nat.le_trans hB ht142.ex.size
      replace hA := ht142.new
      replace hH : Hp B A97 w140 (obC b_r_ [.string s91.s, .int .i64 s91.at_] 35 :: obC b11 [.int .i64 0, .bool x6.1, v135] 38 :: obC b1 [.int .i64 0, .bool false, .slice none 0 0] 38 :: L) := hH141
      refine V_to (fun _ _ => rfl) ?_
      refine C_seq ?_
      refine C_seq ?_
      refine C_region ?_
      refine V_y (Y_move rfl) rfl rfl rfl ?_
      obtain ⟨x146, hx146, hm⟩ := Option.bind_eq_some_iff.1 hm
      refine V_call Try.call12 rfl rfl rfl rfl (know_queryReader_is_c w140 hB hA s91 b_r_ 42 hH hx146) ?_
      rintro _ w147 ⟨A148, rfl, hH149, ht150⟩
      replace h137 := Sl.tr h137 ht150
      replace hK := Tr.trans hK ht150
      replace hB := Nat.le_trans hB ht150.ex.size
      replace hA := ht150.new
      replace hH : Hp B A148 w147 (obC b_r_ [.string x146.2.s, .int .i64 x146.2.at_] 35 :: obC b11 [.int .i64 0, .bool x6.1, v135] 38 :: obC b1 [.int .i64 0, .bool false, .slice none 0 0] 38 :: L) := hH149
      refine V_to (fun _ _ => rfl) ?_
      obtain ⟨s152, ho151, hm⟩ := Option.bind_eq_some_iff.1 hm
      refine C_cutG (ι := (Value × (Nat → Prop))) (fun ⟨v154, A159⟩ => [(2, .pointer (some ⟨b1, 0, none⟩)), (4, .pointer (some ⟨b11, 0, none⟩))]) (fun ⟨v154, A159⟩ => fun w' => Sl A159 w' v154 s152.words ∧ Hp B A159 w' (obC b_r_ [.string x146.2.s, .int .i64 x146.2.at_] 35 :: obC b11 [.int .i64 s152.kind, .bool s152.not, v154] 38 :: obC b1 [.int .i64 0, .bool false, .slice none 0 0] 38 :: L) ∧ Tr B A148 w147 A159 w') ?_ ?_
      · have hr153 : Tr B A148 w147 A148 w147 := Tr.refl hA
        refine C_cond rfl (fun hc161 => ?_) (fun hc161 => ?_)
        · rw [if_pos hc161] at ho151
          refine C_region ?_
          refine V_y (Y_fieldAddrC (off2 := 0) Try.underlying38 rfl Try.sizeOf3 (by decide) rfl rfl) rfl rfl rfl ?_
          refine V_storeC (off := 0) (ds := [.int .i64 2, .bool x6.1, v135]) hH (i := 1) rfl Try.sizeOf3 rfl (Nat.le_of_ble_eq_true rfl) (by simp [Value.cells, Value.oneCell']) rfl hB hA rfl rfl ?_
          intro w162 hH163 ht164
          replace h137 := Sl.tr h137 ht164
          replace hK := Tr.trans hK ht164
          replace hr153 := Tr.trans hr153 ht164
          replace hB := Nat.le_trans hB ht164.ex.size
          replace hA := ht164.new
          replace hH : Hp B A148 w162 (obC b_r_ [.string x146.2.s, .int .i64 x146.2.at_] 35 :: obC b11 [.int .i64 2, .bool x6.1, v135] 38 :: obC b1 [.int .i64 0, .bool false, .slice none 0 0] 38 :: L) := hH163
          obtain rfl := Option.some.inj ho151
          refine V_end (fun a ha165 => ?_)
          exact ⟨(v135, A148), ha165.sub ⟨rfl, rfl, trivial⟩, ⟨h137, hH, hr153⟩⟩
        · rw [if_neg (nt hc161)] at ho151
          obtain rfl := Option.some.inj ho151
          refine C_skip (fun a ha166 => ?_)
          exact ⟨(v135, A148), ha166.sub ⟨rfl, rfl, trivial⟩, ⟨h137, hH, hr153⟩⟩
      rintro ⟨v154, A159⟩ w156 ⟨h155, hH160, hk157⟩ a ha158
      replace hK := Tr.trans hK hk157
      replace hB := Nat.le_trans hB hk157.ex.size
      replace hA := hk157.new
      replace hH : Hp B A159 w156 (obC b_r_ [.string x146.2.s, .int .i64 x146.2.at_] 35 :: obC b11 [.int .i64 s152.kind, .bool s152.not, v154] 38 :: obC b1 [.int .i64 0, .bool false, .slice none 0 0] 38 :: L) := hH160
      refine C_at (n := ⟨127, [], none⟩) (fun _ _ => rfl) ?_ ha158
      refine C_seq ?_
      refine C_region ?_
      refine V_y (Y_loadA (Hp.part (off := 0) (n := 3) (ds := [.int .i64 s152.kind, .bool s152.not, v154]) hH (i := 1) rfl rfl) Try.isAgg38 Try.sizeOf38 rfl) rfl rfl rfl ?_
      have h172 : (v154).oneCell' = true := by obtain ⟨_, _, e, _⟩ := Sl.form h155; rw [e]; rfl
      refine V_storeC (off := 0) (ds := [.int .i64 s152.kind, .bool s152.not, v154]) hH (i := 2) rfl Try.sizeOf38 rfl (Nat.le_of_ble_eq_true rfl) (by exact (List.forall_mem_cons.2 ⟨rfl, (List.forall_mem_cons.2 ⟨rfl, (List.forall_mem_cons.2 ⟨h172, (fun _ h => nomatch h)⟩)⟩)⟩)) rfl hB hA rfl rfl ?_
      intro w167 hH168 ht169
      replace h155 := Sl.tr h155 ht169
      replace hK := Tr.trans hK ht169
      replace hB := Nat.le_trans hB ht169.ex.size
      replace hA := ht169.new
      replace hH : Hp B A159 w167 (obC b_r_ [.string x146.2.s, .int .i64 x146.2.at_] 35 :: obC b11 [.int .i64 s152.kind, .bool s152.not, v154] 38 :: obC b1 [.int .i64 s152.kind, .bool s152.not, v154] 38 :: L) := hH168
      refine V_y (Y_assign rfl) rfl rfl rfl ?_
      refine V_to (fun _ _ => rfl) ?_
      obtain rfl := Option.some.inj hm
      have hv173 := loadVar_agg (Hp.part (off := 0) (n := 3) (ds := [.int .i64 s152.kind, .bool s152.not, v154]) hH (i := 2) rfl rfl) Try.isAgg38 Try.sizeOf38
      replace hH : Hp B A159 w167 (obC b_r_ [.string x146.2.s, .int .i64 x146.2.at_] 35 :: obC b1 [.int .i64 s152.kind, .bool s152.not, v154] 38 :: L) := Hp.drop hH (i := 1) rfl
      replace hH : Hp B A159 w167 (obC b_r_ [.string x146.2.s, .int .i64 x146.2.at_] 35 :: L) := Hp.drop hH (i := 1) rfl
      refine C_ret ?_
      try simp only [↓inBlock_ret, ↓then_ret]
      exact retQ rfl (Res.l2 Try.results11 (RL.cell rfl hv173) (RL.tmp rfl)) ⟨v154, A159, rfl, h155, hH, hK⟩

set_option maxRecDepth 4000 in
set_option maxHeartbeats 4000000 in
theorem know_ReadQuery_c (w : World) {A : Nat → Prop} (hA : ∀ b, w.heap.size ≤ b → A b) (s : ByteArray) {r : (know_Query × Int × Int)} (hm : know_ReadQuery s = some r) : Ret Try.prog 5 #[.string s] w fun v w' => ∃ s0, v = .tuple #[.agg #[s0], .int .i64 r.2.1, .int .i64 r.2.2] ∧ Sl A w' s0 r.1.parts ∧ Kp w w' := by
  unfold know_ReadQuery at hm
  refine enter Try.func5 rfl Try.ntmps5 rfl ?_
  have hA0 := hA
  have hB := Nat.le_refl w.heap.size
  have hK : Tr w.heap.size A w A w := Tr.refl hA
  have hH : Hp w.heap.size A w [] := Hp.nil
  refine C_seq ?_
  refine C_region ?_
  refine V_allocH (B := w.heap.size) hH Try.zeroValue24 hB hA rfl ?_
  intro b1 w2 A3 hH4 ht5
  replace hK := Tr.trans hK ht5
  replace hB := Nat.le_trans hB ht5.ex.size
  replace hA := ht5.new
  replace hH : Hp w.heap.size A3 w2 (obC b1 [.slice none 0 0] 24 :: []) := hH4
  refine V_y (Y_assign rfl) rfl rfl rfl ?_
  refine V_y (Y_assign rfl) rfl rfl rfl ?_
  refine V_to (fun _ _ => rfl) ?_
  refine C_seq ?_
  refine C_seq ?_
  refine C_region ?_
  refine V_y (Y_move rfl) rfl rfl rfl ?_
  refine V_y (Y_lenStr rfl Try.underlying9 rfl) rfl rfl rfl ?_
  refine V_y (Y_gtr rfl rfl) rfl rfl rfl ?_
  refine V_to (fun _ _ => rfl) ?_
  refine C_cond rfl (fun hc6 => ?_) (fun hc6 => ?_)
  · rw [if_pos hc6] at hm
    refine C_seq ?_
    refine C_region ?_
    refine V_y (Y_build Try.underlying24 Try.zeroValue24 (Try_places24 _ Try.underlying24) rfl (by with_unfolding_all rfl)) rfl rfl rfl ?_
    refine V_storeC (off := 0) (ds := [.slice none 0 0]) hH (i := 0) rfl Try.sizeOf24 rfl (Nat.le_of_ble_eq_true rfl) (by exact (List.forall_mem_cons.2 ⟨rfl, (fun _ h => nomatch h)⟩)) rfl hB hA rfl rfl ?_
    intro w7 hH8 ht9
    replace hK := Tr.trans hK ht9
    replace hB := Nat.le_trans hB ht9.ex.size
    replace hA := ht9.new
    replace hH : Hp w.heap.size A3 w7 (obC b1 [.slice none 0 0] 24 :: []) := hH8
    refine V_y (Y_assign rfl) rfl rfl rfl ?_
    refine V_y (Y_assign rfl) rfl rfl rfl ?_
    refine V_to (fun _ _ => rfl) ?_
    obtain rfl := Option.some.inj hm
    refine C_ret ?_
    try simp only [↓inBlock_ret, ↓then_ret]
    exact retQ rfl (Res.l3 Try.results5 (RL.cell rfl (loadVar_agg (Hp.part (off := 0) (n := 1) (ds := [.slice none 0 0]) hH (i := 0) rfl rfl) Try.isAgg24 Try.sizeOf24)) (RL.tmp rfl) (RL.tmp rfl)) ⟨.slice none 0 0, rfl, Sl.nil, hK.kp⟩
  · rw [if_neg (nt hc6)] at hm
    refine C_skip_to (fun _ _ => rfl) ?_
    refine C_seq ?_
    refine C_region ?_
    refine V_y (Y_move rfl) rfl rfl rfl ?_
    refine V_y (Y_build Try.underlying35 Try.zeroValue35 (Try_places35 _ Try.underlying35) rfl (by with_unfolding_all rfl)) rfl rfl rfl ?_
    refine V_boxH (B := w.heap.size) hH rfl hB hA rfl ?_
    intro b10 w11 A12 hH13 ht14
    replace hK := Tr.trans hK ht14
    replace hB := Nat.le_trans hB ht14.ex.size
    replace hA := ht14.new
    replace hH : Hp w.heap.size A12 w11 (obC b10 [.string s, .int .i64 0] 35 :: obC b1 [.slice none 0 0] 24 :: []) := hH13
    refine V_y (Y_assign rfl) rfl rfl rfl ?_
    refine V_to (fun _ _ => rfl) ?_
    refine C_seq ?_
    refine C_region ?_
    refine V_allocH (B := w.heap.size) hH Try.zeroValue24 hB hA rfl ?_
    intro b15 w17 A18 hH19 ht20
    replace hK := Tr.trans hK ht20
    replace hB := Nat.le_trans hB ht20.ex.size
    replace hA := ht20.new
    replace hH : Hp w.heap.size A18 w17 (obC b15 [.slice none 0 0] 24 :: obC b10 [.string s, .int .i64 0] 35 :: obC b1 [.slice none 0 0] 24 :: []) := hH19
    refine V_to (fun _ _ => rfl) ?_
    refine C_seq ?_
    refine C_region ?_
    refine V_y (Y_move rfl) rfl rfl rfl ?_
    replace hH : Hp w.heap.size A18 w17 (obC b10 [.string s, .int .i64 0] 35 :: obC b15 [.slice none 0 0] 24 :: obC b1 [.slice none 0 0] 24 :: []) := Hp.front hH (i := 1) rfl
    obtain ⟨x21, hx21, hm⟩ := Option.bind_eq_some_iff.1 hm
    refine V_call Try.call10 rfl rfl rfl rfl (know_queryReader_blanks_c w17 hB hA (⟨s, 0⟩ : know_queryReader) b10 hH hx21) ?_
    rintro _ w22 ⟨A23, rfl, hH24, ht25⟩
    replace hK := Tr.trans hK ht25
    replace hB := Nat.le_trans hB ht25.ex.size
    replace hA := ht25.new
    replace hH : Hp w.heap.size A23 w22 (obC b10 [.string x21.s, .int .i64 x21.at_] 35 :: obC b15 [.slice none 0 0] 24 :: obC b1 [.slice none 0 0] 24 :: []) := hH24
    refine V_to (fun _ _ => rfl) ?_
    refine C_seq ?_
    replace hH : Hp w.heap.size A23 w22 (obS (α := know_Part) 38 (.slice none 0 0) ([] : (List know_Part)) :: obC b10 [.string x21.s, .int .i64 x21.at_] 35 :: obC b15 [.slice none 0 0] 24 :: obC b1 [.slice none 0 0] 24 :: []) := Hp.addNil (α := know_Part) (e := 38) hH
    obtain ⟨o26, ho26, hm⟩ := Option.bind_eq_some_iff.1 hm
    refine C_cutG (ι := ((know_queryReader × know_Query × know_Query) × Value × Value × (Nat → Prop))) (fun ⟨s27, v33, v35, A37⟩ => [(2, .pointer (some ⟨b1, 0, none⟩)), (6, .pointer (some ⟨b15, 0, none⟩))]) (fun ⟨s27, v33, v35, A37⟩ => fun w' => o26 = .fin s27 ∧ Sl A37 w' v35 s27.2.2.parts ∧ Hp w.heap.size A37 w' (obS (α := know_Part) 38 v33 s27.2.1.parts :: obC b10 [.string s27.1.s, .int .i64 s27.1.at_] 35 :: obC b15 [v33] 24 :: obC b1 [v35] 24 :: []) ∧ Tr w.heap.size A23 w22 A37 w') ?_ ?_
    · refine C_block ?_
      refine C_while ho26 (fun s39 a w' => ∃ i : (Value × Value × (Nat → Prop)), Has ⟨66, [], none⟩ a ([(0, .string s), (2, .pointer (some ⟨b1, 0, none⟩)), (5, .pointer (some ⟨b10, 0, none⟩)), (6, .pointer (some ⟨b15, 0, none⟩))]) ∧ Sl i.2.2 w' i.2.1 s39.2.2.parts ∧ Hp w.heap.size i.2.2 w' (obS (α := know_Part) 38 i.1 s39.2.1.parts :: obC b10 [.string s39.1.s, .int .i64 s39.1.at_] 35 :: obC b15 [i.1] 24 :: obC b1 [i.2.1] 24 :: []) ∧ Tr w.heap.size A23 w22 i.2.2 w') (fun a ha => ⟨(.slice none 0 0, .slice none 0 0, A23), ha.sub ⟨rfl, rfl, rfl, rfl, trivial⟩, ⟨Sl.nil, hH, Tr.refl hA⟩⟩) ?_
      rintro K s39 a w40 ⟨⟨v41, v43, A45⟩, ha131, h44, hH46, hr28⟩ K53
      refine C_of ?_ ha131
      replace hK := Tr.trans hK hr28
      replace hB := Nat.le_trans hB hr28.ex.size
      replace hA := hr28.new
      replace hH : Hp w.heap.size A45 w40 (obS (α := know_Part) 38 v41 s39.2.1.parts :: obC b10 [.string s39.1.s, .int .i64 s39.1.at_] 35 :: obC b15 [v41] 24 :: obC b1 [v43] 24 :: []) := hH46
      obtain ⟨x47, h48, h49⟩ := K53
      refine C_seq ?_
      refine C_seq ?_
      refine C_region ?_
      refine V_y (Y_move rfl) rfl rfl rfl ?_
      refine V_y (Y_nilCheck rfl) rfl rfl rfl ?_
      refine V_y (Y_fieldAddrC (off2 := 1) Try.underlying35 rfl Try.sizeOf3 (by decide) rfl rfl) rfl rfl rfl ?_
      refine V_y (Y_load (Hp.cell (j := 1) hH (i := 1) rfl rfl) Try.isAgg3 rfl) rfl rfl rfl ?_
      refine V_y (Y_move rfl) rfl rfl rfl ?_
      refine V_y (Y_lenStr rfl Try.underlying9 rfl) rfl rfl rfl ?_
      refine V_y (Y_lss rfl rfl) rfl rfl rfl ?_
      refine V_to (fun _ _ => rfl) ?_
      refine C_cond rfl (fun hc54 => ?_) (fun hc54 => ?_)
      · rw [if_pos hc54] at h48
        refine C_skip_to (fun _ _ => rfl) ?_
        refine C_block ?_
        refine C_seq ?_
        refine C_region ?_
        refine V_y (Y_move rfl) rfl rfl rfl ?_
        replace hH : Hp w.heap.size A45 w40 (obC b10 [.string s39.1.s, .int .i64 s39.1.at_] 35 :: obS (α := know_Part) 38 v41 s39.2.1.parts :: obC b15 [v41] 24 :: obC b1 [v43] 24 :: []) := Hp.front hH (i := 1) rfl
        obtain ⟨x55, hx55, h48⟩ := Option.bind_eq_some_iff.1 h48
        refine V_call Try.call11 rfl rfl rfl rfl (know_queryReader_part_c w40 hB hA s39.1 b10 hH hx55) ?_
        rintro _ w58 ⟨v56, A59, rfl, h57, hH60, ht61⟩
        replace h44 := Sl.tr h44 ht61
        replace hK := Tr.trans hK ht61
        replace hr28 := Tr.trans hr28 ht61
        replace hB := Nat.le_trans hB ht61.ex.size
        replace hA := ht61.new
        replace hH : Hp w.heap.size A59 w58 (obC b10 [.string x55.2.2.s, .int .i64 x55.2.2.at_] 35 :: obS (α := know_Part) 38 v41 s39.2.1.parts :: obC b15 [v41] 24 :: obC b1 [v43] 24 :: []) := hH60
        refine V_y (Y_move rfl) rfl rfl rfl ?_
        refine V_y (Y_extract rfl rfl) rfl rfl rfl ?_
        refine V_y (Y_extract rfl rfl) rfl rfl rfl ?_
        refine V_alloc Try.zeroValue38 rfl ?_
        intro b62 w63 h64
        have h69 : (v56).oneCell' = true := by obtain ⟨_, _, e, _⟩ := Sl.form h57; rw [e]; rfl
        refine V_storeNew h64 Try.sizeOf38 rfl rfl rfl rfl (by exact (List.forall_mem_cons.2 ⟨rfl, (List.forall_mem_cons.2 ⟨rfl, (List.forall_mem_cons.2 ⟨h69, (fun _ h => nomatch h)⟩)⟩)⟩)) ?_
        intro w65 h66
        have hk71 := h66.kp
        have h70 : El (α := know_Part) A59 w65 b62 0 x55.1 := h66.el hA ⟨[.int .i64 x55.1.kind], _, rfl, rfl, ⟨[.bool x55.1.not], _, rfl, rfl, ⟨_, rfl, h57⟩⟩⟩
        have ht72 := Kp.tr hk71 hA hB
        replace hH := Hp.kp hH hk71
        replace h57 := Sl.tr h57 ht72
        replace h44 := Sl.tr h44 ht72
        replace hK := Tr.trans hK ht72
        replace hr28 := Tr.trans hr28 ht72
        replace hB := Nat.le_trans hB ht72.ex.size
        replace hA := ht72.new
        refine V_y (Y_assign rfl) rfl rfl rfl ?_
        refine V_to (fun _ _ => rfl) ?_
        refine C_seq ?_
        refine C_seq ?_
        refine C_region ?_
        refine V_y (Y_move rfl) rfl rfl rfl ?_
        refine V_y (Y_not rfl) rfl rfl rfl ?_
        refine V_to (fun _ _ => rfl) ?_
        refine C_cond rfl (fun hc73 => ?_) (fun hc73 => ?_)
        · rw [if_pos hc73] at h48
          refine C_seq ?_
          obtain ⟨A74, ht75, h76, hH77⟩ := Hp.freezeC (α := know_queryReader) (x := x55.2.2) hH (i := 0) rfl hA (by exact ⟨[.string x55.2.2.s], _, rfl, rfl, rfl⟩)
          replace h70 := El.tr h70 ht75
          replace h44 := Sl.tr h44 ht75
          replace hK := Tr.trans hK ht75
          replace hr28 := Tr.trans hr28 ht75
          replace hB := Nat.le_trans hB ht75.ex.size
          replace hA := ht75.new
          replace hH : Hp w.heap.size A74 w65 (obS (α := know_Part) 38 v41 s39.2.1.parts :: obC b15 [v41] 24 :: obC b1 [v43] 24 :: []) := hH77
          refine C_region_ch A74 8 [(1, 0), (1, 1), (1, 2), (1, 3), (1, 4), (3, 5), (1, 6), (1, 7)] Try_mixed (by kernel_rfl) (fun w78 hk79 => ?_)
          have ht80 := Kp.tr hk79 hA hB
          replace hH := Hp.kp hH hk79
          replace h76 := El.tr h76 ht80
          replace h70 := El.tr h70 ht80
          replace h44 := Sl.tr h44 ht80
          replace hK := Tr.trans hK ht80
          replace hr28 := Tr.trans hr28 ht80
          replace hB := Nat.le_trans hB ht80.ex.size
          replace hA := ht80.new
          refine CH_q2 rfl ?_
          refine VQ_y (fun w' hw' => Y_build Try.underlying24 Try.zeroValue24 (Try_places24 _ Try.underlying24) rfl (by with_unfolding_all rfl)) rfl rfl rfl ?_
          refine VQ_CH ?_
          refine CH_q2 rfl ?_
          refine VQ_y (fun w' hw' => Y_move rfl) rfl rfl rfl ?_
          refine VQ_CH ?_
          refine CH_q2 rfl ?_
          refine VQ_y (fun w' hw' => Y_nilCheck rfl) rfl rfl rfl ?_
          refine VQ_CH ?_
          refine CH_q2 rfl ?_
          have h81 := El_know_queryReader_1 h76
          refine VQ_y (fun w' hw' => Y_fieldAddr Try.underlying35 rfl Try.sizeOf3 (by decide) rfl) rfl rfl rfl ?_
          refine VQ_CH ?_
          refine CH_q2 rfl ?_
          refine VQ_y (fun w' hw' => Y_load (El.int (El.keep h81 (XA.ex hw'))) Try.isAgg3 rfl) rfl rfl rfl ?_
          refine VQ_CH ?_
          refine CH_l1 (k := 1) rfl ?_
          refine V_storeC (off := 0) (ds := [.slice none 0 0]) hH (i := 2) rfl Try.sizeOf24 rfl (Nat.le_of_ble_eq_true rfl) (by exact (List.forall_mem_cons.2 ⟨rfl, (fun _ h => nomatch h)⟩)) rfl hB hA rfl rfl ?_
          intro w82 hH83 ht84
          replace h76 := El.tr h76 ht84
          replace h70 := El.tr h70 ht84
          replace h81 := El.tr h81 ht84
          replace h44 := Sl.tr h44 ht84
          replace hK := Tr.trans hK ht84
          replace hr28 := Tr.trans hr28 ht84
          replace hB := Nat.le_trans hB ht84.ex.size
          replace hA := ht84.new
          replace hH : Hp w.heap.size A74 w82 (obS (α := know_Part) 38 v41 s39.2.1.parts :: obC b15 [v41] 24 :: obC b1 [.slice none 0 0] 24 :: []) := hH83
          refine V_CHx (XA.tr ht84) ?_
          refine CH_q2 rfl ?_
          refine VQ_y (fun w' hw' => Y_assign rfl) rfl rfl rfl ?_
          refine VQ_CH ?_
          refine CH_q2 rfl ?_
          refine VQ_y (fun w' hw' => Y_assign rfl) rfl rfl rfl ?_
          refine VQ_CH ?_
          refine CH_tail ?_
          show V _ _ _ _ [] _ _
          refine V_to (fun _ _ => rfl) ?_
          obtain rfl := Option.some.inj h48
          obtain rfl := (h49 : Lp.rt _ = _)
          rw [Lp.andThen_rt] at hm
          obtain rfl := Option.some.inj hm
          refine C_ret ?_
          try simp only [↓inBlock_ret, ↓then_ret]
          exact retQ rfl (Res.l3 Try.results5 (RL.cell rfl (loadVar_agg (Hp.part (off := 0) (n := 1) (ds := [.slice none 0 0]) hH (i := 2) rfl rfl) Try.isAgg24 Try.sizeOf24)) (RL.tmp rfl) (RL.tmp rfl)) ⟨.slice none 0 0, rfl, Sl.nil, hK.kp⟩
        · rw [if_neg (nt hc73)] at h48
          refine C_skip_to (fun _ _ => rfl) ?_
          refine C_seq ?_
          refine C_region ?_
          refine V_y (Y_fieldAddrC (off2 := 0) Try.underlying24 rfl Try.sizeOf22 (by decide) rfl rfl) rfl rfl rfl ?_
          refine V_y (Y_load (Hp.cell (j := 0) hH (i := 2) rfl rfl) Try.isAgg22 rfl) rfl rfl rfl ?_
          obtain ⟨v85, h87, h86⟩ := El_know_Part h70
          refine V_y (Y_loadA h87 Try.isAgg38 Try.sizeOf38 rfl) rfl rfl rfl ?_
          refine V_buildSlice (l := ([x55.1] : List know_Part)) (len := 1) Try.underlying22 Try.sizeOf38 Try.zeroValue38 rfl (by with_unfolding_all rfl) (by decide) (by decide) hA ⟨[.int .i64 x55.1.kind, .bool x55.1.not, v85], _, rfl, ⟨[.int .i64 x55.1.kind], _, rfl, rfl, ⟨[.bool x55.1.not], _, rfl, rfl, ⟨_, rfl, h86⟩⟩⟩, rfl⟩ rfl rfl ?_
          intro v88 w89 hk91 h90
          have ht92 := Kp.tr hk91 hA hB
          replace hH := Hp.kp hH hk91
          replace h70 := El.tr h70 ht92
          replace h86 := Sl.tr h86 ht92
          replace h44 := Sl.tr h44 ht92
          replace hK := Tr.trans hK ht92
          replace hr28 := Tr.trans hr28 ht92
          replace hB := Nat.le_trans hB ht92.ex.size
          replace hA := ht92.new
          obtain ⟨x93, hx93, h48⟩ := Option.bind_eq_some_iff.1 h48
          refine V_appendH (e := 38) (v := v41) (l := s39.2.1.parts) (ti := Try.t38) (bytes := 40) (lim := 3518437208883) hH (i := 1) rfl h90 hx93 Try.underlying22 Try_info38 rfl rfl rfl rfl (by decide) (by decide) (by decide) hB hA rfl rfl rfl ?_
          intro v94 w95 A96 hH97 ht98
          replace h70 := El.tr h70 ht98
          replace h86 := Sl.tr h86 ht98
          replace h90 := Sl.tr h90 ht98
          replace h44 := Sl.tr h44 ht98
          replace hK := Tr.trans hK ht98
          replace hr28 := Tr.trans hr28 ht98
          replace hB := Nat.le_trans hB ht98.ex.size
          replace hA := ht98.new
          replace hH : Hp w.heap.size A96 w95 (obC b10 [.string x55.2.2.s, .int .i64 x55.2.2.at_] 35 :: obS (α := know_Part) 38 v94 x93 :: obC b15 [v41] 24 :: obC b1 [v43] 24 :: []) := hH97
          refine V_y (Y_fieldAddrC (off2 := 0) Try.underlying24 rfl Try.sizeOf22 (by decide) rfl rfl) rfl rfl rfl ?_
          have h104 : (v94).oneCell' = true := by obtain ⟨_, _, e, _⟩ := Hp.form (α := know_Part) (e := 38) (v := v94) (l := x93) hH (i := 1) rfl; rw [e]; rfl
          refine V_storeC (off := 0) (ds := [v94]) hH (i := 2) rfl Try.sizeOf22 (by rw [← Array.length_toList, Value.cells_one h104]; rfl) (Nat.le_of_ble_eq_true rfl) (by intro u hu; rw [Value.cells_one h104] at hu; simp at hu; subst hu; assumption) (by rw [Value.cells_one h104]; rfl) hB hA rfl rfl ?_
          intro w99 hH100 ht101
          replace h70 := El.tr h70 ht101
          replace h86 := Sl.tr h86 ht101
          replace h90 := Sl.tr h90 ht101
          replace h44 := Sl.tr h44 ht101
          replace hK := Tr.trans hK ht101
          replace hr28 := Tr.trans hr28 ht101
          replace hB := Nat.le_trans hB ht101.ex.size
          replace hA := ht101.new
          replace hH : Hp w.heap.size A96 w99 (obC b10 [.string x55.2.2.s, .int .i64 x55.2.2.at_] 35 :: obS (α := know_Part) 38 v94 x93 :: obC b15 [v94] 24 :: obC b1 [v43] 24 :: []) := hH100
          refine V_to (fun _ _ => rfl) ?_
          refine C_seq ?_
          refine C_seq ?_
          refine C_region ?_
          refine V_y (Y_move rfl) rfl rfl rfl ?_
          refine V_y (Y_nilCheck rfl) rfl rfl rfl ?_
          refine V_y (Y_fieldAddrC (off2 := 1) Try.underlying35 rfl Try.sizeOf3 (by decide) rfl rfl) rfl rfl rfl ?_
          refine V_y (Y_load (Hp.cell (j := 1) hH (i := 0) rfl rfl) Try.isAgg3 rfl) rfl rfl rfl ?_
          refine V_y (Y_move rfl) rfl rfl rfl ?_
          refine V_y (Y_lenStr rfl Try.underlying9 rfl) rfl rfl rfl ?_
          refine V_y (Y_eql rfl rfl) rfl rfl rfl ?_
          refine V_to (fun _ _ => rfl) ?_
          refine C_cond rfl (fun hc105 => ?_) (fun hc105 => ?_)
          · rw [if_pos hc105] at h48
            obtain rfl := Option.some.inj h48
            refine C_exit (fun a ha106 => ?_)
            replace hH : Hp w.heap.size A96 w99 (obC b1 [v43] 24 :: obC b10 [.string x55.2.2.s, .int .i64 x55.2.2.at_] 35 :: obS (α := know_Part) 38 v94 x93 :: obC b15 [v94] 24 :: []) := Hp.front hH (i := 3) rfl
            replace hH : Hp w.heap.size A96 w99 (obC b15 [v94] 24 :: obC b1 [v43] 24 :: obC b10 [.string x55.2.2.s, .int .i64 x55.2.2.at_] 35 :: obS (α := know_Part) 38 v94 x93 :: []) := Hp.front hH (i := 3) rfl
            replace hH : Hp w.heap.size A96 w99 (obC b10 [.string x55.2.2.s, .int .i64 x55.2.2.at_] 35 :: obC b15 [v94] 24 :: obC b1 [v43] 24 :: obS (α := know_Part) 38 v94 x93 :: []) := Hp.front hH (i := 2) rfl
            replace hH : Hp w.heap.size A96 w99 (obS (α := know_Part) 38 v94 x93 :: obC b10 [.string x55.2.2.s, .int .i64 x55.2.2.at_] 35 :: obC b15 [v94] 24 :: obC b1 [v43] 24 :: []) := Hp.front hH (i := 3) rfl
            exact ⟨((x55.2.2, (⟨x93⟩ : know_Query), s39.2.2), v94, v43, A96), ha106.sub ⟨rfl, rfl, trivial⟩, ⟨h49.symm, h44, hH, hr28⟩⟩
          · rw [if_neg (nt hc105)] at h48
            refine C_skip_to (fun _ _ => rfl) ?_
            refine C_seq ?_
            refine C_seq ?_
            refine C_region ?_
            refine V_y (Y_move rfl) rfl rfl rfl ?_
            obtain ⟨x107, hx107, h48⟩ := Option.bind_eq_some_iff.1 h48
            refine V_call Try.call12 rfl rfl rfl rfl (know_queryReader_is_c w99 hB hA x55.2.2 b10 32 hH hx107) ?_
            rintro _ w108 ⟨A109, rfl, hH110, ht111⟩
            replace h44 := Sl.tr h44 ht111
            replace hK := Tr.trans hK ht111
            replace hr28 := Tr.trans hr28 ht111
            replace hB := Nat.le_trans hB ht111.ex.size
            replace hA := ht111.new
            replace hH : Hp w.heap.size A109 w108 (obC b10 [.string x107.2.s, .int .i64 x107.2.at_] 35 :: obS (α := know_Part) 38 v94 x93 :: obC b15 [v94] 24 :: obC b1 [v43] 24 :: []) := hH110
            refine V_y (Y_not rfl) rfl rfl rfl ?_
            refine V_to (fun _ _ => rfl) ?_
            refine C_cond rfl (fun hc112 => ?_) (fun hc112 => ?_)
            · rw [if_pos hc112] at h48
              refine C_seq ?_
              obtain ⟨A113, ht114, h115, hH116⟩ := Hp.freezeC (α := know_queryReader) (x := x107.2) hH (i := 0) rfl hA (by exact ⟨[.string x107.2.s], _, rfl, rfl, rfl⟩)
              replace h44 := Sl.tr h44 ht114
              replace hK := Tr.trans hK ht114
              replace hr28 := Tr.trans hr28 ht114
              replace hB := Nat.le_trans hB ht114.ex.size
              replace hA := ht114.new
              replace hH : Hp w.heap.size A113 w108 (obS (α := know_Part) 38 v94 x93 :: obC b15 [v94] 24 :: obC b1 [v43] 24 :: []) := hH116
              refine C_region_ch A113 8 [(1, 0), (1, 1), (1, 2), (1, 3), (1, 4), (3, 5), (1, 6), (1, 7)] Try_mixed (by kernel_rfl) (fun w117 hk118 => ?_)
              have ht119 := Kp.tr hk118 hA hB
              replace hH := Hp.kp hH hk118
              replace h115 := El.tr h115 ht119
              replace h44 := Sl.tr h44 ht119
              replace hK := Tr.trans hK ht119
              replace hr28 := Tr.trans hr28 ht119
              replace hB := Nat.le_trans hB ht119.ex.size
              replace hA := ht119.new
              refine CH_q2 rfl ?_
              refine VQ_y (fun w' hw' => Y_build Try.underlying24 Try.zeroValue24 (Try_places24 _ Try.underlying24) rfl (by with_unfolding_all rfl)) rfl rfl rfl ?_
              refine VQ_CH ?_
              refine CH_q2 rfl ?_
              refine VQ_y (fun w' hw' => Y_move rfl) rfl rfl rfl ?_
              refine VQ_CH ?_
              refine CH_q2 rfl ?_
              refine VQ_y (fun w' hw' => Y_nilCheck rfl) rfl rfl rfl ?_
              refine VQ_CH ?_
              refine CH_q2 rfl ?_
              have h120 := El_know_queryReader_1 h115
              refine VQ_y (fun w' hw' => Y_fieldAddr Try.underlying35 rfl Try.sizeOf3 (by decide) rfl) rfl rfl rfl ?_
              refine VQ_CH ?_
              refine CH_q2 rfl ?_
              refine VQ_y (fun w' hw' => Y_load (El.int (El.keep h120 (XA.ex hw'))) Try.isAgg3 rfl) rfl rfl rfl ?_
              refine VQ_CH ?_
              refine CH_l1 (k := 1) rfl ?_
              refine V_storeC (off := 0) (ds := [.slice none 0 0]) hH (i := 2) rfl Try.sizeOf24 rfl (Nat.le_of_ble_eq_true rfl) (by exact (List.forall_mem_cons.2 ⟨rfl, (fun _ h => nomatch h)⟩)) rfl hB hA rfl rfl ?_
              intro w121 hH122 ht123
              replace h115 := El.tr h115 ht123
              replace h120 := El.tr h120 ht123
              replace h44 := Sl.tr h44 ht123
              replace hK := Tr.trans hK ht123
              replace hr28 := Tr.trans hr28 ht123
              replace hB := Nat.le_trans hB ht123.ex.size
              replace hA := ht123.new
              replace hH : Hp w.heap.size A113 w121 (obS (α := know_Part) 38 v94 x93 :: obC b15 [v94] 24 :: obC b1 [.slice none 0 0] 24 :: []) := hH122
              refine V_CHx (XA.tr ht123) ?_
              refine CH_q2 rfl ?_
              refine VQ_y (fun w' hw' => Y_assign rfl) rfl rfl rfl ?_
              refine VQ_CH ?_
              refine CH_q2 rfl ?_
              refine VQ_y (fun w' hw' => Y_assign rfl) rfl rfl rfl ?_
              refine VQ_CH ?_
              refine CH_tail ?_
              show V _ _ _ _ [] _ _
              refine V_to (fun _ _ => rfl) ?_
              obtain rfl := Option.some.inj h48
              obtain rfl := (h49 : Lp.rt _ = _)
              rw [Lp.andThen_rt] at hm
              obtain rfl := Option.some.inj hm
              refine C_ret ?_
              try simp only [↓inBlock_ret, ↓then_ret]
              exact retQ rfl (Res.l3 Try.results5 (RL.cell rfl (loadVar_agg (Hp.part (off := 0) (n := 1) (ds := [.slice none 0 0]) hH (i := 2) rfl rfl) Try.isAgg24 Try.sizeOf24)) (RL.tmp rfl) (RL.tmp rfl)) ⟨.slice none 0 0, rfl, Sl.nil, hK.kp⟩
            · rw [if_neg (nt hc112)] at h48
              refine C_skip_to (fun _ _ => rfl) ?_
              refine C_region ?_
              refine V_y (Y_move rfl) rfl rfl rfl ?_
              obtain ⟨x124, hx124, h48⟩ := Option.bind_eq_some_iff.1 h48
              refine V_call Try.call10 rfl rfl rfl rfl (know_queryReader_blanks_c w108 hB hA x107.2 b10 hH hx124) ?_
              rintro _ w125 ⟨A126, rfl, hH127, ht128⟩
              replace h44 := Sl.tr h44 ht128
              replace hK := Tr.trans hK ht128
              replace hr28 := Tr.trans hr28 ht128
              replace hB := Nat.le_trans hB ht128.ex.size
              replace hA := ht128.new
              replace hH : Hp w.heap.size A126 w125 (obC b10 [.string x124.s, .int .i64 x124.at_] 35 :: obS (α := know_Part) 38 v94 x93 :: obC b15 [v94] 24 :: obC b1 [v43] 24 :: []) := hH127
              obtain rfl := Option.some.inj h48
              refine V_end (fun a ha129 => ?_)
              replace hH : Hp w.heap.size A126 w125 (obC b1 [v43] 24 :: obC b10 [.string x124.s, .int .i64 x124.at_] 35 :: obS (α := know_Part) 38 v94 x93 :: obC b15 [v94] 24 :: []) := Hp.front hH (i := 3) rfl
              replace hH : Hp w.heap.size A126 w125 (obC b15 [v94] 24 :: obC b1 [v43] 24 :: obC b10 [.string x124.s, .int .i64 x124.at_] 35 :: obS (α := know_Part) 38 v94 x93 :: []) := Hp.front hH (i := 3) rfl
              replace hH : Hp w.heap.size A126 w125 (obC b10 [.string x124.s, .int .i64 x124.at_] 35 :: obC b15 [v94] 24 :: obC b1 [v43] 24 :: obS (α := know_Part) 38 v94 x93 :: []) := Hp.front hH (i := 2) rfl
              replace hH : Hp w.heap.size A126 w125 (obS (α := know_Part) 38 v94 x93 :: obC b10 [.string x124.s, .int .i64 x124.at_] 35 :: obC b15 [v94] 24 :: obC b1 [v43] 24 :: []) := Hp.front hH (i := 3) rfl
              exact ⟨(x124, (⟨x93⟩ : know_Query), s39.2.2), h49, ⟨(v94, v43, A126), ha129.sub ⟨rfl, rfl, rfl, rfl, trivial⟩, ⟨h44, hH, hr28⟩⟩⟩
      · rw [if_neg (nt hc54)] at h48
        obtain rfl := Option.some.inj h48
        refine C_exit (fun a ha130 => ?_)
        exact ⟨((s39.1, s39.2.1, s39.2.2), v41, v43, A45), ha130.sub ⟨rfl, rfl, trivial⟩, ⟨h49.symm, h44, hH, hr28⟩⟩
    rintro ⟨s27, v33, v35, A37⟩ w30 ⟨rfl, h36, hH38, hk31⟩ a ha32
    rw [Lp.andThen_fin] at hm
    replace hK := Tr.trans hK hk31
    replace hB := Nat.le_trans hB hk31.ex.size
    replace hA := hk31.new
    replace hH : Hp w.heap.size A37 w30 (obS (α := know_Part) 38 v33 s27.2.1.parts :: obC b10 [.string s27.1.s, .int .i64 s27.1.at_] 35 :: obC b15 [v33] 24 :: obC b1 [v35] 24 :: []) := hH38
    refine C_at (n := ⟨66, [], none⟩) (fun _ _ => rfl) ?_ ha32
    refine C_seq ?_
    refine C_seq ?_
    refine C_region ?_
    refine V_y (Y_fieldAddrC (off2 := 0) Try.underlying24 rfl Try.sizeOf22 (by decide) rfl rfl) rfl rfl rfl ?_
    refine V_y (Y_load (Hp.cell (j := 0) hH (i := 2) rfl rfl) Try.isAgg22 rfl) rfl rfl rfl ?_
    refine V_y (Y_lenSl (Hp.any (α := know_Part) (e := 38) (v := v33) (l := s27.2.1.parts) hH (i := 0) rfl) rfl Try.underlying22 rfl) rfl rfl rfl ?_
    refine V_y (Y_gtr rfl rfl) rfl rfl rfl ?_
    refine V_to (fun _ _ => rfl) ?_
    refine C_cond rfl (fun hc132 => ?_) (fun hc132 => ?_)
    · rw [if_pos hc132] at hm
      refine C_seq ?_
      refine C_region ?_
      refine V_y (Y_build Try.underlying24 Try.zeroValue24 (Try_places24 _ Try.underlying24) rfl (by with_unfolding_all rfl)) rfl rfl rfl ?_
      refine V_storeC (off := 0) (ds := [.slice none 0 0]) hH (i := 3) rfl Try.sizeOf24 rfl (Nat.le_of_ble_eq_true rfl) (by exact (List.forall_mem_cons.2 ⟨rfl, (fun _ h => nomatch h)⟩)) rfl hB hA rfl rfl ?_
      intro w133 hH134 ht135
      replace h36 := Sl.tr h36 ht135
      replace hK := Tr.trans hK ht135
      replace hB := Nat.le_trans hB ht135.ex.size
      replace hA := ht135.new
      replace hH : Hp w.heap.size A37 w133 (obS (α := know_Part) 38 v33 s27.2.1.parts :: obC b10 [.string s27.1.s, .int .i64 s27.1.at_] 35 :: obC b15 [v33] 24 :: obC b1 [.slice none 0 0] 24 :: []) := hH134
      refine V_y (Y_assign rfl) rfl rfl rfl ?_
      refine V_y (Y_assign rfl) rfl rfl rfl ?_
      refine V_to (fun _ _ => rfl) ?_
      obtain rfl := Option.some.inj hm
      refine C_ret ?_
      try simp only [↓inBlock_ret, ↓then_ret]
      exact retQ rfl (Res.l3 Try.results5 (RL.cell rfl (loadVar_agg (Hp.part (off := 0) (n := 1) (ds := [.slice none 0 0]) hH (i := 3) rfl rfl) Try.isAgg24 Try.sizeOf24)) (RL.tmp rfl) (RL.tmp rfl)) ⟨.slice none 0 0, rfl, Sl.nil, hK.kp⟩
    · rw [if_neg (nt hc132)] at hm
      refine C_skip_to (fun _ _ => rfl) ?_
      refine C_seq ?_
      refine C_region ?_
      refine V_y (Y_loadA (Hp.part (off := 0) (n := 1) (ds := [v33]) hH (i := 2) rfl rfl) Try.isAgg24 Try.sizeOf24 rfl) rfl rfl rfl ?_
      obtain ⟨A136, ht137, h138, hH139⟩ := Hp.freeze (α := know_Part) (v := v33) (l := s27.2.1.parts) hH (i := 0) rfl hA
      replace h36 := Sl.tr h36 ht137
      replace hK := Tr.trans hK ht137
      replace hB := Nat.le_trans hB ht137.ex.size
      replace hA := ht137.new
      replace hH : Hp w.heap.size A136 w30 (obC b10 [.string s27.1.s, .int .i64 s27.1.at_] 35 :: obC b15 [v33] 24 :: obC b1 [v35] 24 :: []) := hH139
      have h146 : (v33).oneCell' = true := by obtain ⟨_, _, e, _⟩ := Sl.form h138; rw [e]; rfl
      refine V_storeC (off := 0) (ds := [v33]) hH (i := 2) rfl Try.sizeOf24 rfl (Nat.le_of_ble_eq_true rfl) (by exact (List.forall_mem_cons.2 ⟨h146, (fun _ h => nomatch h)⟩)) rfl hB hA rfl rfl ?_
      intro w141 hH142 ht143
      replace h138 := Sl.tr h138 ht143
      replace h36 := Sl.tr h36 ht143
      replace hK := Tr.trans hK ht143
      replace hB := Nat.le_trans hB ht143.ex.size
      replace hA := ht143.new
      replace hH : Hp w.heap.size A136 w141 (obC b10 [.string s27.1.s, .int .i64 s27.1.at_] 35 :: obC b15 [v33] 24 :: obC b1 [v33] 24 :: []) := hH142
      refine V_y (Y_assign rfl) rfl rfl rfl ?_
      refine V_y (Y_assign rfl) rfl rfl rfl ?_
      refine V_to (fun _ _ => rfl) ?_
      obtain rfl := Option.some.inj hm
      refine C_ret ?_
      try simp only [↓inBlock_ret, ↓then_ret]
      exact retQ rfl (Res.l3 Try.results5 (RL.cell rfl (loadVar_agg (Hp.part (off := 0) (n := 1) (ds := [v33]) hH (i := 2) rfl rfl) Try.isAgg24 Try.sizeOf24)) (RL.tmp rfl) (RL.tmp rfl)) ⟨v33, rfl, (Sl.out h138 hA0 hK), hK.kp⟩

set_option maxRecDepth 4000 in
set_option maxHeartbeats 4000000 in
theorem portref2_isWordByte_c (w : World) (b : Int) : Ret Try.prog 16 #[.int .u8 b] w fun v w' => v = .bool (portref2_isWordByte b) ∧ w = w' := by
  generalize hm : portref2_isWordByte b = r
  unfold portref2_isWordByte at hm
  refine enter Try.func16 rfl Try.ntmps16 rfl ?_
  refine C_seq ?_
  refine C_region ?_
  refine V_y (Y_assign rfl) rfl rfl rfl ?_
  refine V_to (fun _ _ => rfl) ?_
  refine C_seq ?_
  refine C_region ?_
  refine V_y (Y_move rfl) rfl rfl rfl ?_
  refine V_y (Y_geq rfl rfl) rfl rfl rfl ?_
  refine V_y (Y_move rfl) rfl rfl rfl ?_
  refine V_cut 3 (fun _ : Unit => [(0, .int .u8 b), (8, .bool ((decide ((97 : Int) ≤ b)) && (decide (b ≤ 122))))]) (fun _ w' => w = w') ?_ ?_
  · simp only [List.take, List.drop]
    rcases Bool.eq_false_or_eq_true (decide ((97 : Int) ≤ b)) with hc1 | hc1
    · refine V_ge rfl rfl rfl hc1 ?_
      refine V_y (Y_move rfl) rfl rfl rfl ?_
      refine V_ge rfl rfl rfl hc1 ?_
      refine V_y (Y_leq rfl rfl) rfl rfl rfl ?_
      refine V_y (Y_pick_te rfl hc1 rfl) rfl rfl rfl ?_
      exact V_end fun a ha => ⟨(), ha.sub ⟨rfl, (by rw [hc1]; rfl), trivial⟩, rfl⟩
    · refine V_gn rfl rfl rfl hc1 rfl rfl rfl ?_
      refine V_gn rfl rfl rfl hc1 rfl rfl rfl ?_
      refine V_y (Y_pick_fe rfl hc1 rfl) rfl rfl rfl ?_
      exact V_end fun a ha => ⟨(), ha.sub ⟨rfl, (by rw [hc1]; rfl), trivial⟩, rfl⟩
  simp only [List.take, List.drop]
  rintro _ _ rfl
  refine V_y (Y_move rfl) rfl rfl rfl ?_
  refine V_cut 7 (fun _ : Unit => [(0, .int .u8 b), (16, .bool (((decide ((97 : Int) ≤ b)) && (decide (b ≤ 122))) || ((decide ((65 : Int) ≤ b)) && (decide (b ≤ 90)))))]) (fun _ w' => w = w') ?_ ?_
  · simp only [List.take, List.drop]
    rcases Bool.eq_false_or_eq_true (((decide ((97 : Int) ≤ b)) && (decide (b ≤ 122)))) with hc3 | hc3
    · refine V_gn rfl rfl rfl hc3 rfl rfl rfl ?_
      refine V_gn rfl rfl rfl hc3 rfl rfl rfl ?_
      refine V_gn rfl rfl rfl hc3 rfl rfl rfl ?_
      refine V_gu rfl rfl rfl rfl rfl ?_
      refine V_gu rfl rfl rfl rfl rfl ?_
      refine V_gn rfl rfl rfl hc3 rfl rfl rfl ?_
      refine V_y (Y_pick_te rfl hc3 rfl) rfl rfl rfl ?_
      exact V_end fun a ha => ⟨(), ha.sub ⟨rfl, (by rw [hc3]; rfl), trivial⟩, rfl⟩
    · refine V_ge rfl rfl rfl hc3 ?_
      refine V_y (Y_move rfl) rfl rfl rfl ?_
      refine V_ge rfl rfl rfl hc3 ?_
      refine V_y (Y_geq rfl rfl) rfl rfl rfl ?_
      refine V_ge rfl rfl rfl hc3 ?_
      refine V_y (Y_move rfl) rfl rfl rfl ?_
      refine V_cut 3 (fun _ : Unit => [(0, .int .u8 b), (9, .bool ((decide ((97 : Int) ≤ b)) && (decide (b ≤ 122)))), (15, .bool ((decide ((65 : Int) ≤ b)) && (decide (b ≤ 90))))]) (fun _ w' => w = w') ?_ ?_
      · simp only [List.take, List.drop]
        rcases Bool.eq_false_or_eq_true (decide ((65 : Int) ≤ b)) with hc5 | hc5
        · refine V_ge rfl rfl rfl hc5 ?_
          refine V_y (Y_move rfl) rfl rfl rfl ?_
          refine V_ge rfl rfl rfl hc5 ?_
          refine V_y (Y_leq rfl rfl) rfl rfl rfl ?_
          refine V_ge rfl rfl rfl hc3 ?_
          refine V_y (Y_pick_te rfl hc5 rfl) rfl rfl rfl ?_
          exact V_end fun a ha => ⟨(), ha.sub ⟨rfl, rfl, (by rw [hc5]; rfl), trivial⟩, rfl⟩
        · refine V_gn rfl rfl rfl hc5 rfl rfl rfl ?_
          refine V_gn rfl rfl rfl hc5 rfl rfl rfl ?_
          refine V_ge rfl rfl rfl hc3 ?_
          refine V_y (Y_pick_fe rfl hc5 rfl) rfl rfl rfl ?_
          exact V_end fun a ha => ⟨(), ha.sub ⟨rfl, rfl, (by rw [hc5]; rfl), trivial⟩, rfl⟩
      simp only [List.take, List.drop]
      rintro _ _ rfl
      refine V_y (Y_pick_fe rfl hc3 rfl) rfl rfl rfl ?_
      exact V_end fun a ha => ⟨(), ha.sub ⟨rfl, (by rw [hc3]; rfl), trivial⟩, rfl⟩
  simp only [List.take, List.drop]
  rintro _ _ rfl
  refine V_y (Y_move rfl) rfl rfl rfl ?_
  refine V_cut 7 (fun _ : Unit => [(0, .int .u8 b), (24, .bool ((((decide ((97 : Int) ≤ b)) && (decide (b ≤ 122))) || ((decide ((65 : Int) ≤ b)) && (decide (b ≤ 90)))) || ((decide ((48 : Int) ≤ b)) && (decide (b ≤ 57)))))]) (fun _ w' => w = w') ?_ ?_
  · simp only [List.take, List.drop]
    rcases Bool.eq_false_or_eq_true ((((decide ((97 : Int) ≤ b)) && (decide (b ≤ 122))) || ((decide ((65 : Int) ≤ b)) && (decide (b ≤ 90))))) with hc7 | hc7
    · refine V_gn rfl rfl rfl hc7 rfl rfl rfl ?_
      refine V_gn rfl rfl rfl hc7 rfl rfl rfl ?_
      refine V_gn rfl rfl rfl hc7 rfl rfl rfl ?_
      refine V_gu rfl rfl rfl rfl rfl ?_
      refine V_gu rfl rfl rfl rfl rfl ?_
      refine V_gn rfl rfl rfl hc7 rfl rfl rfl ?_
      refine V_y (Y_pick_te rfl hc7 rfl) rfl rfl rfl ?_
      exact V_end fun a ha => ⟨(), ha.sub ⟨rfl, (by rw [hc7]; rfl), trivial⟩, rfl⟩
    · refine V_ge rfl rfl rfl hc7 ?_
      refine V_y (Y_move rfl) rfl rfl rfl ?_
      refine V_ge rfl rfl rfl hc7 ?_
      refine V_y (Y_geq rfl rfl) rfl rfl rfl ?_
      refine V_ge rfl rfl rfl hc7 ?_
      refine V_y (Y_move rfl) rfl rfl rfl ?_
      refine V_cut 3 (fun _ : Unit => [(0, .int .u8 b), (17, .bool (((decide ((97 : Int) ≤ b)) && (decide (b ≤ 122))) || ((decide ((65 : Int) ≤ b)) && (decide (b ≤ 90))))), (23, .bool ((decide ((48 : Int) ≤ b)) && (decide (b ≤ 57))))]) (fun _ w' => w = w') ?_ ?_
      · simp only [List.take, List.drop]
        rcases Bool.eq_false_or_eq_true (decide ((48 : Int) ≤ b)) with hc9 | hc9
        · refine V_ge rfl rfl rfl hc9 ?_
          refine V_y (Y_move rfl) rfl rfl rfl ?_
          refine V_ge rfl rfl rfl hc9 ?_
          refine V_y (Y_leq rfl rfl) rfl rfl rfl ?_
          refine V_ge rfl rfl rfl hc7 ?_
          refine V_y (Y_pick_te rfl hc9 rfl) rfl rfl rfl ?_
          exact V_end fun a ha => ⟨(), ha.sub ⟨rfl, rfl, (by rw [hc9]; rfl), trivial⟩, rfl⟩
        · refine V_gn rfl rfl rfl hc9 rfl rfl rfl ?_
          refine V_gn rfl rfl rfl hc9 rfl rfl rfl ?_
          refine V_ge rfl rfl rfl hc7 ?_
          refine V_y (Y_pick_fe rfl hc9 rfl) rfl rfl rfl ?_
          exact V_end fun a ha => ⟨(), ha.sub ⟨rfl, rfl, (by rw [hc9]; rfl), trivial⟩, rfl⟩
      simp only [List.take, List.drop]
      rintro _ _ rfl
      refine V_y (Y_pick_fe rfl hc7 rfl) rfl rfl rfl ?_
      exact V_end fun a ha => ⟨(), ha.sub ⟨rfl, (by rw [hc7]; rfl), trivial⟩, rfl⟩
  simp only [List.take, List.drop]
  rintro _ _ rfl
  refine V_y (Y_move rfl) rfl rfl rfl ?_
  refine V_cut 3 (fun _ : Unit => [(28, .bool (((((decide ((97 : Int) ≤ b)) && (decide (b ≤ 122))) || ((decide ((65 : Int) ≤ b)) && (decide (b ≤ 90)))) || ((decide ((48 : Int) ≤ b)) && (decide (b ≤ 57)))) || (decide ((128 : Int) ≤ b))))]) (fun _ w' => w = w') ?_ ?_
  · simp only [List.take, List.drop]
    rcases Bool.eq_false_or_eq_true (((((decide ((97 : Int) ≤ b)) && (decide (b ≤ 122))) || ((decide ((65 : Int) ≤ b)) && (decide (b ≤ 90)))) || ((decide ((48 : Int) ≤ b)) && (decide (b ≤ 57))))) with hc11 | hc11
    · refine V_gn rfl rfl rfl hc11 rfl rfl rfl ?_
      refine V_gn rfl rfl rfl hc11 rfl rfl rfl ?_
      refine V_y (Y_pick_te rfl hc11 rfl) rfl rfl rfl ?_
      exact V_end fun a ha => ⟨(), ha.sub ⟨(by rw [hc11]; rfl), trivial⟩, rfl⟩
    · refine V_ge rfl rfl rfl hc11 ?_
      refine V_y (Y_move rfl) rfl rfl rfl ?_
      refine V_ge rfl rfl rfl hc11 ?_
      refine V_y (Y_geq rfl rfl) rfl rfl rfl ?_
      refine V_y (Y_pick_fe rfl hc11 rfl) rfl rfl rfl ?_
      exact V_end fun a ha => ⟨(), ha.sub ⟨(by rw [hc11]; rfl), trivial⟩, rfl⟩
  simp only [List.take, List.drop]
  rintro _ _ rfl
  refine V_y (Y_assign rfl) rfl rfl rfl ?_
  refine V_to (fun _ _ => rfl) ?_
  obtain rfl := hm
  refine C_ret ?_
  try simp only [↓inBlock_ret, ↓then_ret]
  exact retQ rfl (Res.one Try.results16 rfl) ⟨rfl, rfl⟩

set_option maxRecDepth 4000 in
set_option maxHeartbeats 4000000 in
theorem portref2_lower_c (w : World) {A : Nat → Prop} (hA : ∀ b, w.heap.size ≤ b → A b) (s : ByteArray) {r : ByteArray} (hm : portref2_lower s = some r) : Ret Try.prog 17 #[.string s] w fun v w' => v = .string r ∧ Kp w w' := by
  unfold portref2_lower at hm
  refine enter Try.func17 rfl Try.ntmps17 rfl ?_
  have hA0 := hA
  have hB := Nat.le_refl w.heap.size
  have hK : Tr w.heap.size A w A w := Tr.refl hA
  have hH : Hp w.heap.size A w [] := Hp.nil
  refine C_seq ?_
  refine C_region ?_
  refine V_y (Y_assign rfl) rfl rfl rfl ?_
  refine V_to (fun _ _ => rfl) ?_
  refine C_seq ?_
  refine C_region ?_
  refine V_y (Y_move rfl) rfl rfl rfl ?_
  obtain ⟨x1, hx1, hm⟩ := Option.bind_eq_some_iff.1 hm
  refine V_convU (e := 5) hH hx1 Try.underlying9 Try.underlying151 Try.underlying5 hB hA rfl rfl ?_
  intro v2 w3 A4 hH5 ht6
  replace hK := Tr.trans hK ht6
  replace hB := Nat.le_trans hB ht6.ex.size
  replace hA := ht6.new
  replace hH : Hp w.heap.size A4 w3 (obU 5 v2 x1 :: []) := hH5
  refine V_y (Y_assign rfl) rfl rfl rfl ?_
  refine V_to (fun _ _ => rfl) ?_
  refine C_seq ?_
  refine C_seq ?_
  refine C_region ?_
  refine V_y (Y_move rfl) rfl rfl rfl ?_
  refine V_y (Y_lenSl (Hp.anyU (e := 5) (v := v2) (l := x1) hH (i := 0) rfl) rfl Try.underlying151 rfl) rfl rfl rfl ?_
  refine V_y (Y_move rfl) rfl rfl rfl ?_
  refine V_to (fun _ _ => rfl) ?_
  have hn31 := Hp.leU (e := 5) (v := v2) (l := x1) hH (i := 0) rfl
  obtain ⟨o7, ho7, hm⟩ := Option.bind_eq_some_iff.1 hm
  refine C_cutG (ι := ((List UInt8) × Value × (Nat → Prop))) (fun ⟨s8, v14, A16⟩ => [(3, v14)]) (fun ⟨s8, v14, A16⟩ => fun w' => o7 = .fin s8 ∧ Hp w.heap.size A16 w' (obU 5 v14 s8 :: []) ∧ Tr w.heap.size A4 w3 A16 w') ?_ ?_
  · refine C_block ?_
    refine C_range ho7 (fun k10 s18 a w' => ∃ i : (Value × (Nat → Prop)), Has ⟨29, [], none⟩ a ([(3, i.1), (8, i.1), (9, .int .i64 (x1.length : Int)), (10, .int .i64 (k10 : Int))]) ∧ Hp w.heap.size i.2 w' (obU 5 i.1 s18 :: []) ∧ Tr w.heap.size A4 w3 i.2 w') (fun a ha => ⟨(v2, A4), ha.sub ⟨rfl, rfl, rfl, rfl, trivial⟩, ⟨hH, Tr.refl hA⟩⟩) ?_
    rintro K k10 s18 a w19 ⟨⟨v20, A22⟩, ha74, hH23, hr9⟩ hle27 K30 h29
    refine C_of ?_ ha74
    replace hK := Tr.trans hK hr9
    replace hB := Nat.le_trans hB hr9.ex.size
    replace hA := hr9.new
    replace hH : Hp w.heap.size A22 w19 (obU 5 v20 s18 :: []) := hH23
    refine C_seq (C_region (V_y (Y_lss rfl rfl) rfl rfl rfl (V_to (fun _ _ => rfl) ?_)))
    refine C_seq ?_
    refine C_cond rfl (fun hc32 => ?_) (fun hc32 => ?_)
    · have hlt28 := lt_of_dec hc32
      obtain ⟨x24, h25, h26⟩ := K30 hlt28
      refine C_skip_to (fun _ _ => rfl) ?_
      refine C_seq ?_
      obtain ⟨s34, ho33, h25⟩ := Option.bind_eq_some_iff.1 h25
      refine C_cutG (ι := (Value × (Nat → Prop))) (fun ⟨v36, A41⟩ => [(3, v36), (8, v36), (9, .int .i64 (x1.length : Int)), (10, .int .i64 (k10 : Int))]) (fun ⟨v36, A41⟩ => fun w' => Hp w.heap.size A41 w' (obU 5 v36 s34 :: []) ∧ Tr w.heap.size A22 w19 A41 w') ?_ ?_
      · have hr35 : Tr w.heap.size A22 w19 A22 w19 := Tr.refl hA
        refine C_block ?_
        refine C_seq ?_
        refine C_region ?_
        refine V_y (Y_move rfl) rfl rfl rfl ?_
        obtain ⟨x43, hx43, ho33⟩ := Option.bind_eq_some_iff.1 ho33
        refine V_indexAddrU (e := 5) (v := v20) (l := s18) hH (i := 0) rfl hx43 Try.underlying151 Try.sizeOf5 rfl rfl rfl ?_
        intro b44 o45 h46 hl47
        refine V_y (Y_load (El.u8 h46) Try.isAgg5 rfl) rfl rfl rfl ?_
        refine V_y (Y_assign rfl) rfl rfl rfl ?_
        refine V_y (Y_assign rfl) rfl rfl rfl ?_
        refine V_to (fun _ _ => rfl) ?_
        refine C_seq ?_
        refine C_region ?_
        refine V_y (Y_move rfl) rfl rfl rfl ?_
        refine V_y (Y_geq rfl rfl) rfl rfl rfl ?_
        refine V_y (Y_move rfl) rfl rfl rfl ?_
        refine V_cut 3 (fun _ : Unit => [(3, v20), (4, .int .i64 (k10 : Int)), (5, .int .u8 (x43.toNat : Int)), (8, v20), (9, .int .i64 (x1.length : Int)), (10, .int .i64 (k10 : Int)), (20, .bool ((decide ((65 : Int) ≤ (x43.toNat : Int))) && (decide ((x43.toNat : Int) ≤ 90))))]) (fun _ w' => w19 = w') ?_ ?_
        · simp only [List.take, List.drop]
          rcases Bool.eq_false_or_eq_true (decide ((65 : Int) ≤ (x43.toNat : Int))) with hc48 | hc48
          · refine V_ge rfl rfl rfl hc48 ?_
            refine V_y (Y_move rfl) rfl rfl rfl ?_
            refine V_ge rfl rfl rfl hc48 ?_
            refine V_y (Y_leq rfl rfl) rfl rfl rfl ?_
            refine V_y (Y_pick_te rfl hc48 rfl) rfl rfl rfl ?_
            exact V_end fun a ha => ⟨(), ha.sub ⟨rfl, rfl, rfl, rfl, rfl, rfl, (by rw [hc48]; rfl), trivial⟩, rfl⟩
          · refine V_gn rfl rfl rfl hc48 rfl rfl rfl ?_
            refine V_gn rfl rfl rfl hc48 rfl rfl rfl ?_
            refine V_y (Y_pick_fe rfl hc48 rfl) rfl rfl rfl ?_
            exact V_end fun a ha => ⟨(), ha.sub ⟨rfl, rfl, rfl, rfl, rfl, rfl, (by rw [hc48]; rfl), trivial⟩, rfl⟩
        simp only [List.take, List.drop]
        rintro _ _ rfl
        refine V_to (fun _ _ => rfl) ?_
        obtain ⟨s51, ho50, ho33⟩ := Option.bind_eq_some_iff.1 ho33
        refine C_cutG (ι := (Value × (Nat → Prop))) (fun ⟨v53, A58⟩ => [(3, v53), (8, v53), (9, .int .i64 (x1.length : Int)), (10, .int .i64 (k10 : Int))]) (fun ⟨v53, A58⟩ => fun w' => Hp w.heap.size A58 w' (obU 5 v53 s51 :: []) ∧ Tr w.heap.size A22 w19 A58 w') ?_ ?_
        · have hr52 : Tr w.heap.size A22 w19 A22 w19 := Tr.refl hA
          refine C_cond rfl (fun hc60 => ?_) (fun hc60 => ?_)
          · rw [if_pos hc60] at ho50
            refine C_region ?_
            refine V_y (Y_move rfl) rfl rfl rfl ?_
            refine V_y (Y_move rfl) rfl rfl rfl ?_
            refine V_y (Y_move rfl) rfl rfl rfl ?_
            refine V_y (Y_addB rfl rfl) rfl rfl rfl ?_
            refine V_indexAddrU (e := 5) (v := v20) (l := s18) hH (i := 0) rfl hx43 Try.underlying151 Try.sizeOf5 rfl rfl rfl ?_
            intro b61 o62 h63 hl64
            obtain ⟨x65, hx65, ho50⟩ := Option.bind_eq_some_iff.1 ho50
            refine V_storeU (e := 5) (v := v20) (l := s18) hH (i := 0) rfl hl64 hx65 rfl Try.sizeOf5 rfl hB hA rfl rfl ?_
            intro w66 hH67 ht68
            replace hK := Tr.trans hK ht68
            replace hr9 := Tr.trans hr9 ht68
            replace hr35 := Tr.trans hr35 ht68
            replace hr52 := Tr.trans hr52 ht68
            replace hB := Nat.le_trans hB ht68.ex.size
            replace hA := ht68.new
            replace hH : Hp w.heap.size A22 w66 (obU 5 v20 x65 :: []) := hH67
            obtain rfl := Option.some.inj ho50
            refine V_end (fun a ha69 => ?_)
            exact ⟨(v20, A22), ha69.sub ⟨rfl, rfl, rfl, rfl, trivial⟩, ⟨hH, hr52⟩⟩
          · rw [if_neg (nt hc60)] at ho50
            obtain rfl := Option.some.inj ho50
            refine C_skip (fun a ha70 => ?_)
            exact ⟨(v20, A22), ha70.sub ⟨rfl, rfl, rfl, rfl, trivial⟩, ⟨hH, hr52⟩⟩
        rintro ⟨v53, A58⟩ w55 ⟨hH59, hk56⟩ a ha57
        replace hK := Tr.trans hK hk56
        replace hr9 := Tr.trans hr9 hk56
        replace hr35 := Tr.trans hr35 hk56
        replace hB := Nat.le_trans hB hk56.ex.size
        replace hA := hk56.new
        replace hH : Hp w.heap.size A58 w55 (obU 5 v53 s51 :: []) := hH59
        obtain rfl := Option.some.inj ho33
        exact ⟨(v53, A58), ha57.sub ⟨rfl, rfl, rfl, rfl, trivial⟩, ⟨hH, hr35⟩⟩
      rintro ⟨v36, A41⟩ w38 ⟨hH42, hk39⟩ a ha40
      replace hK := Tr.trans hK hk39
      replace hr9 := Tr.trans hr9 hk39
      replace hB := Nat.le_trans hB hk39.ex.size
      replace hA := hk39.new
      replace hH : Hp w.heap.size A41 w38 (obU 5 v36 s34 :: []) := hH42
      refine C_at (n := ⟨29, [], none⟩) (fun _ _ => rfl) ?_ ha40
      refine C_region ?_
      refine V_y (Y_addI rfl rfl) rfl rfl rfl ?_
      refine V_y (Y_move rfl) rfl rfl rfl ?_
      obtain rfl := Option.some.inj h25
      refine V_end (fun a ha72 => ?_)
      exact ⟨s34, hlt28, h26, ⟨(v36, A41), ha72.sub ⟨rfl, rfl, rfl, (congrArg (fun z => some (Value.int .i64 z)) (w64_succ hlt28 hn31)), trivial⟩, ⟨hH, hr9⟩⟩⟩
    · refine C_exit (fun a ha73 => ?_)
      exact ⟨(s18, v20, A22), ha73.sub ⟨rfl, trivial⟩, ⟨(h29 (eq_of_dec hle27 hc32)).symm, hH, hr9⟩⟩
  rintro ⟨s8, v14, A16⟩ w11 ⟨rfl, hH17, hk12⟩ a ha13
  rw [Lp.andThen_fin] at hm
  replace hK := Tr.trans hK hk12
  replace hB := Nat.le_trans hB hk12.ex.size
  replace hA := hk12.new
  replace hH : Hp w.heap.size A16 w11 (obU 5 v14 s8 :: []) := hH17
  refine C_at (n := ⟨29, [], none⟩) (fun _ _ => rfl) ?_ ha13
  refine C_seq ?_
  refine C_region ?_
  refine V_y (Y_move rfl) rfl rfl rfl ?_
  obtain ⟨A75, ht76, h77, hH78⟩ := Hp.freezeU (v := v14) (l := s8) hH (i := 0) rfl hA
  replace hK := Tr.trans hK ht76
  replace hB := Nat.le_trans hB ht76.ex.size
  replace hA := ht76.new
  replace hH : Hp w.heap.size A75 w11 ([]) := hH78
  refine V_y (Y_convBS (l := s8) h77 Try.underlying151 Try.underlying5 Try.underlying9 rfl) rfl rfl rfl ?_
  refine V_y (Y_assign rfl) rfl rfl rfl ?_
  refine V_to (fun _ _ => rfl) ?_
  obtain rfl := Option.some.inj hm
  refine C_ret ?_
  try simp only [↓inBlock_ret, ↓then_ret]
  exact retQ rfl (Res.one Try.results17 rfl) ⟨rfl, hK.kp⟩

set_option maxRecDepth 4000 in
set_option maxHeartbeats 4000000 in
theorem portref2_WordsOf_c (w : World) {A : Nat → Prop} (hA : ∀ b, w.heap.size ≤ b → A b) (s : ByteArray) {r : (List ByteArray)} (hm : portref2_WordsOf s = some r) : Ret Try.prog 15 #[.string s] w fun v w' => ∃ s0, v = s0 ∧ Ownd 9 w w' s0 r ∧ Kp w w' := by
  unfold portref2_WordsOf at hm
  refine enter Try.func15 rfl Try.ntmps15 rfl ?_
  have hA0 := hA
  have hB := Nat.le_refl w.heap.size
  have hK : Tr w.heap.size A w A w := Tr.refl hA
  have hH : Hp w.heap.size A w [] := Hp.nil
  refine C_seq ?_
  refine C_region ?_
  refine V_y (Y_assign rfl) rfl rfl rfl ?_
  refine V_to (fun _ _ => rfl) ?_
  refine C_seq ?_
  refine C_region ?_
  refine V_y (Y_assign rfl) rfl rfl rfl ?_
  refine V_to (fun _ _ => rfl) ?_
  refine C_seq ?_
  refine C_seq ?_
  refine C_region ?_
  refine V_y (Y_assign rfl) rfl rfl rfl ?_
  refine V_to (fun _ _ => rfl) ?_
  replace hH : Hp w.heap.size A w (obS (α := ByteArray) 9 (.slice none 0 0) ([] : (List ByteArray)) :: []) := Hp.addNil (α := ByteArray) (e := 9) hH
  obtain ⟨o1, ho1, hm⟩ := Option.bind_eq_some_iff.1 hm
  refine C_cutG (ι := (((List ByteArray) × Int) × Value × (Nat → Prop))) (fun ⟨s2, v8, A10⟩ => [(3, v8)]) (fun ⟨s2, v8, A10⟩ => fun w' => o1 = .fin s2 ∧ Hp w.heap.size A10 w' (obS (α := ByteArray) 9 v8 s2.1 :: []) ∧ Tr w.heap.size A w A10 w') ?_ ?_
  · refine C_block ?_
    refine C_while ho1 (fun s12 a w' => ∃ i : (Value × (Nat → Prop)), Has ⟨45, [], none⟩ a ([(0, .string s), (3, i.1), (4, .int .i64 s12.2)]) ∧ Hp w.heap.size i.2 w' (obS (α := ByteArray) 9 i.1 s12.1 :: []) ∧ Tr w.heap.size A w i.2 w') (fun a ha => ⟨(.slice none 0 0, A), ha.sub ⟨rfl, rfl, rfl, trivial⟩, ⟨hH, Tr.refl hA⟩⟩) ?_
    rintro K s12 a w13 ⟨⟨v14, A16⟩, ha83, hH17, hr3⟩ K24
    refine C_of ?_ ha83
    replace hK := Tr.trans hK hr3
    replace hB := Nat.le_trans hB hr3.ex.size
    replace hA := hr3.new
    replace hH : Hp w.heap.size A16 w13 (obS (α := ByteArray) 9 v14 s12.1 :: []) := hH17
    obtain ⟨x18, h19, h20⟩ := K24
    refine C_seq ?_
    refine C_seq ?_
    refine C_region ?_
    refine V_y (Y_move rfl) rfl rfl rfl ?_
    refine V_y (Y_move rfl) rfl rfl rfl ?_
    refine V_y (Y_lenStr rfl Try.underlying9 rfl) rfl rfl rfl ?_
    refine V_y (Y_lss rfl rfl) rfl rfl rfl ?_
    refine V_to (fun _ _ => rfl) ?_
    refine C_cond rfl (fun hc25 => ?_) (fun hc25 => ?_)
    · rw [if_pos hc25] at h19
      refine C_skip_to (fun _ _ => rfl) ?_
      refine C_block ?_
      refine C_seq ?_
      refine C_region ?_
      refine V_y (Y_move rfl) rfl rfl rfl ?_
      refine V_y (Y_assign rfl) rfl rfl rfl ?_
      refine V_to (fun _ _ => rfl) ?_
      refine C_seq ?_
      obtain ⟨o26, ho26, h19⟩ := Option.bind_eq_some_iff.1 h19
      refine C_cutG (ι := Int) (fun (s27 : Int) => [(0, .string s), (3, v14), (4, .int .i64 s12.2), (5, .int .i64 s27)]) (fun (s27 : Int) => fun w' => o26 = .fin s27 ∧ w13 = w') ?_ ?_
      · refine C_block ?_
        refine C_while ho26 (fun s33 a w' => ∃ i : Unit, Has ⟨45, [], none⟩ a ([(0, .string s), (3, v14), (4, .int .i64 s12.2), (5, .int .i64 s33)]) ∧ w13 = w') (fun a ha => ⟨(), ha.sub ⟨rfl, rfl, rfl, rfl, trivial⟩, rfl⟩) ?_
        rintro K s33 a _ ⟨_, ha48, rfl⟩ K41
        refine C_of ?_ ha48
        obtain ⟨x35, h36, h37⟩ := K41
        refine C_seq ?_
        refine C_seq ?_
        refine C_region ?_
        refine V_y (Y_move rfl) rfl rfl rfl ?_
        refine V_y (Y_move rfl) rfl rfl rfl ?_
        refine V_y (Y_lenStr rfl Try.underlying9 rfl) rfl rfl rfl ?_
        refine V_y (Y_lss rfl rfl) rfl rfl rfl ?_
        refine V_y (Y_move rfl) rfl rfl rfl ?_
        obtain ⟨s43, hs43, h36⟩ := Option.bind_eq_some_iff.1 h36
        refine V_cut 5 (fun _ : Unit => [(0, .string s), (3, v14), (4, .int .i64 s12.2), (5, .int .i64 s33), (20, .bool s43)]) (fun _ w' => w13 = w') ?_ ?_
        · simp only [List.take, List.drop]
          rcases Bool.eq_false_or_eq_true (decide (s33 < (s.size : Int))) with hc42 | hc42
          · rw [if_pos hc42] at hs43
            refine V_ge rfl rfl rfl hc42 ?_
            refine V_y (Y_move rfl) rfl rfl rfl ?_
            refine V_ge rfl rfl rfl hc42 ?_
            refine V_y (Y_move rfl) rfl rfl rfl ?_
            refine V_ge rfl rfl rfl hc42 ?_
            obtain ⟨x44, hx44, hs43⟩ := Option.bind_eq_some_iff.1 hs43
            refine V_y (Y_indexS hx44 Try.underlying9 rfl rfl) rfl rfl rfl ?_
            refine V_ge rfl rfl rfl hc42 ?_
            refine V_call Try.call16 rfl rfl rfl rfl (portref2_isWordByte_c w13 (x44.toNat : Int)) ?_
            rintro _ _ ⟨rfl, rfl⟩
            refine V_y (Y_pick_te rfl hc42 rfl) rfl rfl rfl ?_
            obtain rfl := Option.some.inj hs43
            exact V_end fun a ha => ⟨(), ha.sub ⟨rfl, rfl, rfl, rfl, rfl, trivial⟩, rfl⟩
          · rw [if_neg (nt hc42)] at hs43
            refine V_gn rfl rfl rfl hc42 rfl rfl rfl ?_
            refine V_gn rfl rfl rfl hc42 rfl rfl rfl ?_
            refine V_gn rfl rfl rfl hc42 rfl rfl rfl ?_
            refine V_gn rfl rfl rfl hc42 rfl rfl rfl ?_
            refine V_y (Y_pick_fe rfl hc42 rfl) rfl rfl rfl ?_
            obtain rfl := Option.some.inj hs43
            exact V_end fun a ha => ⟨(), ha.sub ⟨rfl, rfl, rfl, rfl, rfl, trivial⟩, rfl⟩
        simp only [List.take, List.drop]
        rintro _ _ rfl
        refine V_to (fun _ _ => rfl) ?_
        refine C_cond rfl (fun hc45 => ?_) (fun hc45 => ?_)
        · rw [if_pos hc45] at h36
          refine C_skip_to (fun _ _ => rfl) ?_
          refine C_block ?_
          refine C_region ?_
          refine V_y (Y_move rfl) rfl rfl rfl ?_
          refine V_y (Y_addI rfl rfl) rfl rfl rfl ?_
          refine V_y (Y_assign rfl) rfl rfl rfl ?_
          obtain rfl := Option.some.inj h36
          refine V_end (fun a ha46 => ?_)
          exact ⟨w64 (s33 + 1), h37, ⟨(), ha46.sub ⟨rfl, rfl, rfl, rfl, trivial⟩, rfl⟩⟩
        · rw [if_neg (nt hc45)] at h36
          obtain rfl := Option.some.inj h36
          refine C_exit (fun a ha47 => ?_)
          exact ⟨s33, ha47.sub ⟨rfl, rfl, rfl, rfl, trivial⟩, ⟨h37.symm, rfl⟩⟩
      rintro s27 _ ⟨rfl, rfl⟩ a ha32
      rw [Lp.andThen_fin] at h19
      refine C_at (n := ⟨45, [], none⟩) (fun _ _ => rfl) ?_ ha32
      refine C_seq ?_
      refine C_seq ?_
      refine C_region ?_
      refine V_y (Y_move rfl) rfl rfl rfl ?_
      refine V_y (Y_move rfl) rfl rfl rfl ?_
      refine V_y (Y_gtr rfl rfl) rfl rfl rfl ?_
      refine V_y (Y_move rfl) rfl rfl rfl ?_
      refine V_cut 5 (fun _ : Unit => [(0, .string s), (3, v14), (4, .int .i64 s12.2), (5, .int .i64 s27), (31, .bool ((decide (s12.2 < s27)) && (decide ((w64 (s27 - s12.2)) ≤ 30))))]) (fun _ w' => w13 = w') ?_ ?_
      · simp only [List.take, List.drop]
        rcases Bool.eq_false_or_eq_true (decide (s12.2 < s27)) with hc49 | hc49
        · refine V_ge rfl rfl rfl hc49 ?_
          refine V_y (Y_move rfl) rfl rfl rfl ?_
          refine V_ge rfl rfl rfl hc49 ?_
          refine V_y (Y_move rfl) rfl rfl rfl ?_
          refine V_ge rfl rfl rfl hc49 ?_
          refine V_y (Y_subI rfl rfl) rfl rfl rfl ?_
          refine V_ge rfl rfl rfl hc49 ?_
          refine V_y (Y_leq rfl rfl) rfl rfl rfl ?_
          refine V_y (Y_pick_te rfl hc49 rfl) rfl rfl rfl ?_
          exact V_end fun a ha => ⟨(), ha.sub ⟨rfl, rfl, rfl, rfl, (by rw [hc49]; rfl), trivial⟩, rfl⟩
        · refine V_gn rfl rfl rfl hc49 rfl rfl rfl ?_
          refine V_gn rfl rfl rfl hc49 rfl rfl rfl ?_
          refine V_gn rfl rfl rfl hc49 rfl rfl rfl ?_
          refine V_gn rfl rfl rfl hc49 rfl rfl rfl ?_
          refine V_y (Y_pick_fe rfl hc49 rfl) rfl rfl rfl ?_
          exact V_end fun a ha => ⟨(), ha.sub ⟨rfl, rfl, rfl, rfl, (by rw [hc49]; rfl), trivial⟩, rfl⟩
      simp only [List.take, List.drop]
      rintro _ _ rfl
      refine V_to (fun _ _ => rfl) ?_
      obtain ⟨s52, ho51, h19⟩ := Option.bind_eq_some_iff.1 h19
      refine C_cutG (ι := (Value × (Nat → Prop))) (fun ⟨v54, A59⟩ => [(0, .string s), (3, v54), (4, .int .i64 s12.2), (5, .int .i64 s27)]) (fun ⟨v54, A59⟩ => fun w' => Hp w.heap.size A59 w' (obS (α := ByteArray) 9 v54 s52 :: []) ∧ Tr w.heap.size A16 w13 A59 w') ?_ ?_
      · have hr53 : Tr w.heap.size A16 w13 A16 w13 := Tr.refl hA
        refine C_cond rfl (fun hc61 => ?_) (fun hc61 => ?_)
        · rw [if_pos hc61] at ho51
          refine C_region ?_
          refine V_y (Y_move rfl) rfl rfl rfl ?_
          refine V_y (Y_move rfl) rfl rfl rfl ?_
          refine V_y (Y_move rfl) rfl rfl rfl ?_
          refine V_y (Y_move rfl) rfl rfl rfl ?_
          obtain ⟨x62, hx62, ho51⟩ := Option.bind_eq_some_iff.1 ho51
          refine V_y (Y_sliceSLH hx62 Try.underlying9 rfl rfl rfl) rfl rfl rfl ?_
          obtain ⟨x63, hx63, ho51⟩ := Option.bind_eq_some_iff.1 ho51
          refine V_call Try.call17 rfl rfl rfl rfl (portref2_lower_c w13 hA x62 hx63) ?_
          rintro _ w65 ⟨rfl, hk66⟩
          have ht67 := Kp.tr hk66 hA hB
          replace hH := Hp.kp hH hk66
          replace hK := Tr.trans hK ht67
          replace hr3 := Tr.trans hr3 ht67
          replace hr53 := Tr.trans hr53 ht67
          replace hB := Nat.le_trans hB ht67.ex.size
          replace hA := ht67.new
          refine V_buildSlice (l := ([x63] : List ByteArray)) (len := 1) Try.underlying36 Try.sizeOf9 Try.zeroValue9 rfl (by with_unfolding_all rfl) (by decide) (by decide) hA ⟨[.string x63], _, rfl, rfl, rfl⟩ rfl rfl ?_
          intro v68 w69 hk71 h70
          have ht72 := Kp.tr hk71 hA hB
          replace hH := Hp.kp hH hk71
          replace hK := Tr.trans hK ht72
          replace hr3 := Tr.trans hr3 ht72
          replace hr53 := Tr.trans hr53 ht72
          replace hB := Nat.le_trans hB ht72.ex.size
          replace hA := ht72.new
          obtain ⟨x73, hx73, ho51⟩ := Option.bind_eq_some_iff.1 ho51
          refine V_appendH (e := 9) (v := v14) (l := s12.1) (ti := Try.t9) (bytes := 16) (lim := 8796093022208) hH (i := 0) rfl h70 hx73 Try.underlying36 Try_info9 rfl rfl rfl rfl (by decide) (by decide) (by decide) hB hA rfl rfl rfl ?_
          intro v74 w75 A76 hH77 ht78
          replace h70 := Sl.tr h70 ht78
          replace hK := Tr.trans hK ht78
          replace hr3 := Tr.trans hr3 ht78
          replace hr53 := Tr.trans hr53 ht78
          replace hB := Nat.le_trans hB ht78.ex.size
          replace hA := ht78.new
          replace hH : Hp w.heap.size A76 w75 (obS (α := ByteArray) 9 v74 x73 :: []) := hH77
          refine V_y (Y_assign rfl) rfl rfl rfl ?_
          obtain rfl := Option.some.inj ho51
          refine V_end (fun a ha79 => ?_)
          exact ⟨(v74, A76), ha79.sub ⟨rfl, rfl, rfl, rfl, trivial⟩, ⟨hH, hr53⟩⟩
        · rw [if_neg (nt hc61)] at ho51
          obtain rfl := Option.some.inj ho51
          refine C_skip (fun a ha80 => ?_)
          exact ⟨(v14, A16), ha80.sub ⟨rfl, rfl, rfl, rfl, trivial⟩, ⟨hH, hr53⟩⟩
      rintro ⟨v54, A59⟩ w56 ⟨hH60, hk57⟩ a ha58
      replace hK := Tr.trans hK hk57
      replace hr3 := Tr.trans hr3 hk57
      replace hB := Nat.le_trans hB hk57.ex.size
      replace hA := hk57.new
      replace hH : Hp w.heap.size A59 w56 (obS (α := ByteArray) 9 v54 s52 :: []) := hH60
      refine C_at (n := ⟨45, [], none⟩) (fun _ _ => rfl) ?_ ha58
      refine C_region ?_
      refine V_y (Y_move rfl) rfl rfl rfl ?_
      refine V_y (Y_move rfl) rfl rfl rfl ?_
      refine V_y (Y_addI rfl rfl) rfl rfl rfl ?_
      refine V_y (Y_max2 rfl rfl) rfl rfl rfl ?_
      refine V_y (Y_assign rfl) rfl rfl rfl ?_
      obtain rfl := Option.some.inj h19
      refine V_end (fun a ha81 => ?_)
      exact ⟨(s52, (if s27 < w64 (s12.2 + 1) then w64 (s12.2 + 1) else s27)), h20, ⟨(v54, A59), ha81.sub ⟨rfl, rfl, rfl, trivial⟩, ⟨hH, hr3⟩⟩⟩
    · rw [if_neg (nt hc25)] at h19
      obtain rfl := Option.some.inj h19
      refine C_exit (fun a ha82 => ?_)
      exact ⟨((s12.1, s12.2), v14, A16), ha82.sub ⟨rfl, trivial⟩, ⟨h20.symm, hH, hr3⟩⟩
  rintro ⟨s2, v8, A10⟩ w5 ⟨rfl, hH11, hk6⟩ a ha7
  rw [Lp.andThen_fin] at hm
  replace hK := Tr.trans hK hk6
  replace hB := Nat.le_trans hB hk6.ex.size
  replace hA := hk6.new
  replace hH : Hp w.heap.size A10 w5 (obS (α := ByteArray) 9 v8 s2.1 :: []) := hH11
  refine C_at (n := ⟨45, [], none⟩) (fun _ _ => rfl) ?_ ha7
  refine C_seq ?_
  refine C_region ?_
  refine V_y (Y_move rfl) rfl rfl rfl ?_
  refine V_y (Y_assign rfl) rfl rfl rfl ?_
  refine V_to (fun _ _ => rfl) ?_
  obtain rfl := Option.some.inj hm
  refine C_ret ?_
  try simp only [↓inBlock_ret, ↓then_ret]
  exact retQ rfl (Res.one Try.results15 rfl) ⟨v8, rfl, (Hp.ownd hH (i := 0) rfl), hK.kp⟩

set_option maxRecDepth 4000 in
set_option maxHeartbeats 4000000 in
theorem portref2_ReadQueryOf_1_c (w : World) {A : Nat → Prop} (hA : ∀ b, w.heap.size ≤ b → A b) (at_ : Int) {r : (know_Query × Int × Int)} (hm : portref2_ReadQueryOf_1 at_ = some r) : Ret Try.prog 13 #[.int .i64 at_] w fun v w' => ∃ s0, v = .tuple #[.agg #[s0], .int .i64 r.2.1, .int .i64 r.2.2] ∧ Sl A w' s0 r.1.parts ∧ Kp w w' := by
  unfold portref2_ReadQueryOf_1 at hm
  refine enter Try.func13 rfl Try.ntmps13 rfl ?_
  have hA0 := hA
  have hB := Nat.le_refl w.heap.size
  have hK : Tr w.heap.size A w A w := Tr.refl hA
  have hH : Hp w.heap.size A w [] := Hp.nil
  refine C_seq ?_
  refine C_region ?_
  refine V_allocH (B := w.heap.size) hH Try.zeroValue24 hB hA rfl ?_
  intro b1 w2 A3 hH4 ht5
  replace hK := Tr.trans hK ht5
  replace hB := Nat.le_trans hB ht5.ex.size
  replace hA := ht5.new
  replace hH : Hp w.heap.size A3 w2 (obC b1 [.slice none 0 0] 24 :: []) := hH4
  refine V_y (Y_assign rfl) rfl rfl rfl ?_
  refine V_y (Y_assign rfl) rfl rfl rfl ?_
  refine V_to (fun _ _ => rfl) ?_
  refine C_seq ?_
  refine C_region ?_
  refine V_y (Y_build Try.underlying24 Try.zeroValue24 (Try_places24 _ Try.underlying24) rfl (by with_unfolding_all rfl)) rfl rfl rfl ?_
  refine V_y (Y_move rfl) rfl rfl rfl ?_
  refine V_storeC (off := 0) (ds := [.slice none 0 0]) hH (i := 0) rfl Try.sizeOf24 rfl (Nat.le_of_ble_eq_true rfl) (by exact (List.forall_mem_cons.2 ⟨rfl, (fun _ h => nomatch h)⟩)) rfl hB hA rfl rfl ?_
  intro w6 hH7 ht8
  replace hK := Tr.trans hK ht8
  replace hB := Nat.le_trans hB ht8.ex.size
  replace hA := ht8.new
  replace hH : Hp w.heap.size A3 w6 (obC b1 [.slice none 0 0] 24 :: []) := hH7
  refine V_y (Y_assign rfl) rfl rfl rfl ?_
  refine V_y (Y_assign rfl) rfl rfl rfl ?_
  refine V_to (fun _ _ => rfl) ?_
  obtain rfl := Option.some.inj hm
  refine C_ret ?_
  try simp only [↓inBlock_ret, ↓then_ret]
  exact retQ rfl (Res.l3 Try.results13 (RL.cell rfl (loadVar_agg (Hp.part (off := 0) (n := 1) (ds := [.slice none 0 0]) hH (i := 0) rfl rfl) Try.isAgg24 Try.sizeOf24)) (RL.tmp rfl) (RL.tmp rfl)) ⟨.slice none 0 0, rfl, Sl.nil, hK.kp⟩

end Go.Proofs.Ytgeagllbckdfhaa.W
