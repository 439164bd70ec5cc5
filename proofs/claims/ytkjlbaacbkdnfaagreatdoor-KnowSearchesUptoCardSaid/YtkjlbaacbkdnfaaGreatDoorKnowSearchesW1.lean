/-
  Written by program (gen.py) from the IR of the dump: each function computes its model.
-/
import Derived.Test.YtkjlbaacbkdnfaaGreatDoorKnowSearchesW0
namespace Go.Proofs.YtkjlbaacbkdnfaaGreatDoor.W
open Go Go.RowKit Go.Pu Go.Gw Go.Proofs Go.Proofs.YtkjlbaacbkdnfaaGreatDoor.M
set_option linter.unusedVariables false
set_option linter.unusedSimpArgs false
variable {Dw : Prop}

set_option maxRecDepth 4000 in
set_option maxHeartbeats 4000000 in
theorem slices_IndexFunc_Lknow_Part_know_Part_c (w : World) {A : Nat → Prop} (hA : ∀ b, w.heap.size ≤ b → A b) (s : (List know_Part)) (v_s : Value) (h_s : Sl A w v_s s) (f : know_Part → Option Bool) (f_f : FuncId) (f_a f_c : Array Value) (f_call : ∀ (args : Array Value) (w : World), (callFunc f_f args).run Tryz.prog w = .ok (.enter f_f args) w) (f_spec : ∀ (w1 : World) (A1 : Nat → Prop), Tr Dw w.heap.size A w A1 w1 → (∀ b, w1.heap.size ≤ b → A1 b) → ∀ (y0 : know_Part) (v1 : Value) (h2 : Sl A1 w1 v1 y0.words) (r : Bool), f y0 = some r → Ret Tryz.prog f_f (f_a ++ #[.agg #[.int .i64 y0.kind, .bool y0.not_, v1]] ++ f_c) w1 fun v w' => v = .bool r ∧ Kp Dw w1 w') {r : Int} (hm : slices_IndexFunc_Lknow_Part_know_Part s f = some r) : Ret Tryz.prog 25 #[v_s, .func (.func f_f) f_a f_c] w fun v w' => v = .int .i64 r ∧ Kp Dw w w' := by
 unfold slices_IndexFunc_Lknow_Part_know_Part at hm
 refine enter Tryz.func25 rfl Tryz.ntmps25 rfl ?_
 have hA0 := hA
 have hB := Nat.le_refl w.heap.size
 have hK : Tr Dw w.heap.size A w A w := Tr.refl (Dw := Dw) hA
 have hH : Hp w.heap.size A w [] := Hp.nil
 refine C_seq ?_
 refine C_region ?_
 refine V_as rfl rfl ?_
 refine V_to (fun _ _ => rfl) ?_
 refine C_seq ?_
 refine C_seq ?_
 refine C_region ?_
 refine V_mv rfl rfl ?_
 refine V_y (Y_lenSl h_s rfl Tryz.underlying26 rfl) rfl rfl rfl ?_
 refine V_mv rfl rfl ?_
 refine V_to (fun _ _ => rfl) ?_
 have hn23 := Sl.le h_s
 obtain ⟨o3, ho3, hm⟩ := Option.bind_eq_some_iff.1 hm
 refine C_cutG (ι := (Unit × (Nat → Prop))) (fun ⟨s4, A10⟩ => []) (fun ⟨s4, A10⟩ => fun w' => o3 = .fin s4 ∧ Hp w.heap.size A10 w' ([]) ∧ Tr Dw w.heap.size A w A10 w') ?_ ?_
 ·refine C_block ?_
  refine C_range ho3 (fun k6 _ a w' => ∃ i : (Nat → Prop), Has ⟨19, [], none⟩ a ([(0, v_s), (1, .func (.func f_f) f_a f_c), (7, .int .i64 (s.length : Int)), (8, .int .i64 (k6 : Int))]) ∧ Hp w.heap.size i w' ([]) ∧ Tr Dw w.heap.size A w i w') (fun a ha => ⟨A, ha.sub ⟨rfl, rfl, rfl, rfl, trivial⟩, ⟨hH, Tr.refl (Dw := Dw) hA⟩⟩) ?_
  rintro K k6 _ a w13 ⟨A14, ha39, hH15, hr5⟩ hle19 K22 h21
  refine C_of ?_ ha39
  replace h_s := Sl.tr h_s hr5
  replace hK := Tr.trans hK hr5
  replace hB := Nat.le_trans hB hr5.ex.size
  replace hA := hr5.new
  replace hH : Hp w.heap.size A14 w13 ([]) := hH15
  refine C_seq (C_region (V_y (Y_lss rfl rfl) rfl rfl rfl (V_to (fun _ _ => rfl) ?_)))
  refine C_seq ?_
  refine C_cond rfl (fun hc24 => ?_) (fun hc24 => ?_)
  ·have hlt20 := lt_of_dec hc24
   obtain ⟨x16, h17, h18⟩ := K22 hlt20
   refine C_skip_to (fun _ _ => rfl) ?_
   refine C_seq ?_
   refine C_block ?_
   refine C_seq ?_
   refine C_region ?_
   refine V_mv rfl rfl ?_
   refine V_as rfl rfl ?_
   refine V_to (fun _ _ => rfl) ?_
   refine C_seq ?_
   refine C_region ?_
   refine V_mv rfl rfl ?_
   refine V_mv rfl rfl ?_
   refine V_mv rfl rfl ?_
   obtain ⟨x25, hx25, h17⟩ := Option.bind_eq_some_iff.1 h17
   refine V_indexAddr h_s hx25 Tryz.underlying26 Tryz.sizeOf44 rfl rfl rfl ?_
   intro b26 o27 h28
   obtain ⟨v29, h31, h30⟩ := El_know_Part h28
   refine V_y (Y_loadA h31 Tryz.isAgg44 Tryz.sizeOf44 rfl) rfl rfl rfl ?_
   obtain ⟨x32, hx32, h17⟩ := Option.bind_eq_some_iff.1 h17
   refine V_call f_call rfl rfl rfl rfl (f_spec w13 _ hK hA x25 v29 h30 _ hx32) ?_
   rintro _ w33 ⟨rfl, hk34⟩
   have ht35 := Kp.tr hk34 hA hB
   replace hH := Hp.kp hH hk34
   replace hK := Tr.trans hK ht35
   replace hr5 := Tr.trans hr5 ht35
   refine V_to (fun _ _ => rfl) ?_
   refine C_cond rfl (fun hc36 => ?_) (fun hc36 => ?_)
   ·rw [if_pos hc36] at h17
    refine C_seq ?_
    refine C_region ?_
    refine V_mv rfl rfl ?_
    refine V_as rfl rfl ?_
    refine V_to (fun _ _ => rfl) ?_
    obtain rfl := Option.some.inj h17
    obtain rfl := (h18 : Lp.rt _ = _)
    rw [Lp.andThen_rt] at hm
    obtain rfl := Option.some.inj hm
    refine C_ret ?_
    try simp only [↓inBlock_ret, ↓then_ret]
    exact retQ rfl (Res.one Tryz.results25 rfl) ⟨rfl, hK.kp⟩
   ·rw [if_neg (nt hc36)] at h17
    refine C_skip_to (fun _ _ => rfl) ?_
    refine C_region ?_
    refine V_y (Y_addI rfl rfl) rfl rfl rfl ?_
    refine V_mv rfl rfl ?_
    obtain rfl := Option.some.inj h17
    refine V_end (fun a ha37 => ?_)
    exact ⟨(), hlt20, h18, ⟨A14, ha37.sub ⟨rfl, rfl, rfl, (congrArg (fun z => some (Value.int .i64 z)) (w64_succ hlt20 hn23)), trivial⟩, ⟨hH, hr5⟩⟩⟩
  ·refine C_exit (fun a ha38 => ?_)
   exact ⟨((), A14), ha38.sub trivial, ⟨(h21 (eq_of_dec hle19 hc24)).symm, hH, hr5⟩⟩
 rintro ⟨s4, A10⟩ w7 ⟨rfl, hH11, hk8⟩ a ha9
 rw [Lp.andThen_fin] at hm
 replace hK := Tr.trans hK hk8
 replace hA := hk8.new
 replace hH : Hp w.heap.size A10 w7 ([]) := hH11
 refine C_at (n := ⟨19, [], none⟩) (fun _ _ => rfl) ?_ ha9
 refine C_seq ?_
 refine C_region ?_
 refine V_as rfl rfl ?_
 refine V_to (fun _ _ => rfl) ?_
 obtain rfl := Option.some.inj hm
 refine C_ret ?_
 try simp only [↓inBlock_ret, ↓then_ret]
 exact retQ rfl (Res.one Tryz.results25 rfl) ⟨rfl, hK.kp⟩

set_option maxRecDepth 4000 in
set_option maxHeartbeats 4000000 in
theorem slices_ContainsFunc_Lknow_Part_know_Part_c (w : World) {A : Nat → Prop} (hA : ∀ b, w.heap.size ≤ b → A b) (s : (List know_Part)) (v_s : Value) (h_s : Sl A w v_s s) (f : know_Part → Option Bool) (f_f : FuncId) (f_a f_c : Array Value) (f_call : ∀ (args : Array Value) (w : World), (callFunc f_f args).run Tryz.prog w = .ok (.enter f_f args) w) (f_spec : ∀ (w1 : World) (A1 : Nat → Prop), Tr Dw w.heap.size A w A1 w1 → (∀ b, w1.heap.size ≤ b → A1 b) → ∀ (y0 : know_Part) (v1 : Value) (h2 : Sl A1 w1 v1 y0.words) (r : Bool), f y0 = some r → Ret Tryz.prog f_f (f_a ++ #[.agg #[.int .i64 y0.kind, .bool y0.not_, v1]] ++ f_c) w1 fun v w' => v = .bool r ∧ Kp Dw w1 w') {r : Bool} (hm : slices_ContainsFunc_Lknow_Part_know_Part s f = some r) : Ret Tryz.prog 10 #[v_s, .func (.func f_f) f_a f_c] w fun v w' => v = .bool r ∧ Kp Dw w w' := by
 unfold slices_ContainsFunc_Lknow_Part_know_Part at hm
 refine enter Tryz.func10 rfl Tryz.ntmps10 rfl ?_
 have hA0 := hA
 have hB := Nat.le_refl w.heap.size
 have hK : Tr Dw w.heap.size A w A w := Tr.refl (Dw := Dw) hA
 have hH : Hp w.heap.size A w [] := Hp.nil
 refine C_seq ?_
 refine C_region ?_
 refine V_as rfl rfl ?_
 refine V_to (fun _ _ => rfl) ?_
 refine C_seq ?_
 refine C_region ?_
 refine V_mv rfl rfl ?_
 refine V_mv rfl rfl ?_
 obtain ⟨x3, hx3, hm⟩ := Option.bind_eq_some_iff.1 hm
 refine V_call Tryz.call25 rfl rfl rfl rfl (slices_IndexFunc_Lknow_Part_know_Part_c (Dw := Dw) w hA s v_s h_s f f_f f_a f_c f_call (fun w1 A1 ht => f_spec w1 A1 (Tr.trans hK (Tr.lower (Dw := Dw) ht hB))) hx3) ?_
 rintro _ w4 ⟨rfl, hk5⟩
 have ht6 := Kp.tr hk5 hA hB
 replace hK := Tr.trans hK ht6
 refine V_y (Y_geq rfl rfl) rfl rfl rfl ?_
 refine V_as rfl rfl ?_
 refine V_to (fun _ _ => rfl) ?_
 obtain rfl := Option.some.inj hm
 refine C_ret ?_
 try simp only [↓inBlock_ret, ↓then_ret]
 exact retQ rfl (Res.one Tryz.results10 rfl) ⟨rfl, hK.kp⟩

set_option maxRecDepth 4000 in
set_option maxHeartbeats 4000000 in
theorem know_Search_1_c (w : World) {A : Nat → Prop} (hA : ∀ b, w.heap.size ≤ b → A b) (p : know_Part) (v_p : Value) (h_p : Sl A w v_p p.words) {r : Bool} (hm : know_Search_1 p = some r) : Ret Tryz.prog 11 #[.agg #[.int .i64 p.kind, .bool p.not_, v_p]] w fun v w' => v = .bool r ∧ Kp Dw w w' := by
 unfold know_Search_1 at hm
 refine enter Tryz.func11 rfl Tryz.ntmps11 rfl ?_
 have hA0 := hA
 have hB := Nat.le_refl w.heap.size
 have hK : Tr Dw w.heap.size A w A w := Tr.refl (Dw := Dw) hA
 have hH : Hp w.heap.size A w [] := Hp.nil
 refine C_seq ?_
 refine C_region ?_
 refine V_box rfl rfl ?_
 intro b3 w4 h5
 have hk7 := h5.kp (Dw := Dw)
 have h6 : El (α := know_Part) A w4 b3 0 p := h5.el hA ⟨[.int .i64 p.kind], _, rfl, rfl, ⟨[.bool p.not_], _, rfl, rfl, ⟨_, rfl, h_p⟩⟩⟩
 have ht8 := Kp.tr hk7 hA hB
 replace hK := Tr.trans hK ht8
 refine V_as rfl rfl ?_
 refine V_to (fun _ _ => rfl) ?_
 refine C_seq ?_
 refine C_region ?_
 have h9 := El_know_Part_1 h6
 refine V_y (Y_fieldAddr Tryz.underlying44 rfl Tryz.sizeOf4 (by decide) rfl) rfl rfl rfl ?_
 refine V_y (Y_load (El.bool h9) Tryz.isAgg4 rfl) rfl rfl rfl ?_
 refine V_y (Y_not rfl) rfl rfl rfl ?_
 refine V_as rfl rfl ?_
 refine V_to (fun _ _ => rfl) ?_
 obtain rfl := Option.some.inj hm
 refine C_ret ?_
 try simp only [↓inBlock_ret, ↓then_ret]
 exact retQ rfl (Res.one Tryz.results11 rfl) ⟨rfl, hK.kp⟩

set_option maxRecDepth 4000 in
set_option maxHeartbeats 4000000 in
theorem internal_stringslite_HasPrefix_c (w : World) (s : ByteArray) (prefix_ : ByteArray) {r : Bool} (hm : internal_stringslite_HasPrefix s prefix_ = some r) : Ret Tryz.prog 59 #[.string s, .string prefix_] w fun v w' => v = .bool r ∧ w = w' := by
 unfold internal_stringslite_HasPrefix at hm
 refine enter Tryz.func59 rfl Tryz.ntmps59 rfl ?_
 refine C_seq ?_
 refine C_region ?_
 refine V_as rfl rfl ?_
 refine V_to (fun _ _ => rfl) ?_
 refine C_seq ?_
 refine C_region ?_
 refine V_mv rfl rfl ?_
 refine V_y (Y_lenStr rfl Tryz.underlying9 rfl) rfl rfl rfl ?_
 refine V_mv rfl rfl ?_
 refine V_y (Y_lenStr rfl Tryz.underlying9 rfl) rfl rfl rfl ?_
 refine V_y (Y_geq rfl rfl) rfl rfl rfl ?_
 refine V_mv rfl rfl ?_
 obtain ⟨s2, hs2, hm⟩ := Option.bind_eq_some_iff.1 hm
 refine V_cut 7 (fun _ : Unit => [(17, .bool s2)]) (fun _ w' => w = w') ?_ ?_
 ·simp only [List.take, List.drop]
  rcases Bool.eq_false_or_eq_true (decide ((prefix_.size : Int) ≤ (s.size : Int))) with hc1 | hc1
  ·rw [if_pos hc1] at hs2
   refine V_ge rfl rfl rfl hc1 ?_
   refine V_mv rfl rfl ?_
   refine V_ge rfl rfl rfl hc1 ?_
   refine V_mv rfl rfl ?_
   refine V_ge rfl rfl rfl hc1 ?_
   refine V_y (Y_lenStr rfl Tryz.underlying9 rfl) rfl rfl rfl ?_
   refine V_ge rfl rfl rfl hc1 ?_
   obtain ⟨x3, hx3, hs2⟩ := Option.bind_eq_some_iff.1 hs2
   refine V_y (Y_sliceSH hx3 Tryz.underlying9 rfl rfl) rfl rfl rfl ?_
   refine V_ge rfl rfl rfl hc1 ?_
   refine V_mv rfl rfl ?_
   refine V_ge rfl rfl rfl hc1 ?_
   refine V_y (Y_seql rfl rfl) rfl rfl rfl ?_
   refine V_y (Y_pick_te rfl hc1 rfl) rfl rfl rfl ?_
   obtain rfl := Option.some.inj hs2
   exact V_end fun a ha => ⟨(), ha.sub ⟨rfl, trivial⟩, rfl⟩
  ·rw [if_neg (nt hc1)] at hs2
   refine V_gn rfl rfl rfl hc1 rfl rfl rfl ?_
   refine V_gn rfl rfl rfl hc1 rfl rfl rfl ?_
   refine V_gn rfl rfl rfl hc1 rfl rfl rfl ?_
   refine V_gn rfl rfl rfl hc1 rfl rfl rfl ?_
   refine V_gn rfl rfl rfl hc1 rfl rfl rfl ?_
   refine V_gn rfl rfl rfl hc1 rfl rfl rfl ?_
   refine V_y (Y_pick_fe rfl hc1 rfl) rfl rfl rfl ?_
   obtain rfl := Option.some.inj hs2
   exact V_end fun a ha => ⟨(), ha.sub ⟨rfl, trivial⟩, rfl⟩
 simp only [List.take, List.drop]
 rintro _ _ rfl
 refine V_as rfl rfl ?_
 refine V_to (fun _ _ => rfl) ?_
 obtain rfl := Option.some.inj hm
 refine C_ret ?_
 try simp only [↓inBlock_ret, ↓then_ret]
 exact retQ rfl (Res.one Tryz.results59 rfl) ⟨rfl, rfl⟩

set_option maxRecDepth 4000 in
set_option maxHeartbeats 4000000 in
theorem strings_HasPrefix_c (w : World) (s : ByteArray) (prefix_ : ByteArray) {r : Bool} (hm : strings_HasPrefix s prefix_ = some r) : Ret Tryz.prog 26 #[.string s, .string prefix_] w fun v w' => v = .bool r ∧ w = w' := by
 unfold strings_HasPrefix at hm
 refine enter Tryz.func26 rfl Tryz.ntmps26 rfl ?_
 refine C_seq ?_
 refine C_region ?_
 refine V_as rfl rfl ?_
 refine V_to (fun _ _ => rfl) ?_
 refine C_seq ?_
 refine C_region ?_
 refine V_mv rfl rfl ?_
 refine V_mv rfl rfl ?_
 obtain ⟨x1, hx1, hm⟩ := Option.bind_eq_some_iff.1 hm
 refine V_call Tryz.call59 rfl rfl rfl rfl (internal_stringslite_HasPrefix_c w s prefix_ hx1) ?_
 rintro _ _ ⟨rfl, rfl⟩
 refine V_as rfl rfl ?_
 refine V_to (fun _ _ => rfl) ?_
 obtain rfl := Option.some.inj hm
 refine C_ret ?_
 try simp only [↓inBlock_ret, ↓then_ret]
 exact retQ rfl (Res.one Tryz.results26 rfl) ⟨rfl, rfl⟩

set_option maxRecDepth 4000 in
set_option maxHeartbeats 4000000 in
theorem internal_stringslite_HasSuffix_c (w : World) (s : ByteArray) (suffix : ByteArray) {r : Bool} (hm : internal_stringslite_HasSuffix s suffix = some r) : Ret Tryz.prog 85 #[.string s, .string suffix] w fun v w' => v = .bool r ∧ w = w' := by
 unfold internal_stringslite_HasSuffix at hm
 refine enter Tryz.func85 rfl Tryz.ntmps85 rfl ?_
 refine C_seq ?_
 refine C_region ?_
 refine V_as rfl rfl ?_
 refine V_to (fun _ _ => rfl) ?_
 refine C_seq ?_
 refine C_region ?_
 refine V_mv rfl rfl ?_
 refine V_y (Y_lenStr rfl Tryz.underlying9 rfl) rfl rfl rfl ?_
 refine V_mv rfl rfl ?_
 refine V_y (Y_lenStr rfl Tryz.underlying9 rfl) rfl rfl rfl ?_
 refine V_y (Y_geq rfl rfl) rfl rfl rfl ?_
 refine V_mv rfl rfl ?_
 obtain ⟨s2, hs2, hm⟩ := Option.bind_eq_some_iff.1 hm
 refine V_cut 10 (fun _ : Unit => [(20, .bool s2)]) (fun _ w' => w = w') ?_ ?_
 ·simp only [List.take, List.drop]
  rcases Bool.eq_false_or_eq_true (decide ((suffix.size : Int) ≤ (s.size : Int))) with hc1 | hc1
  ·rw [if_pos hc1] at hs2
   refine V_ge rfl rfl rfl hc1 ?_
   refine V_mv rfl rfl ?_
   refine V_ge rfl rfl rfl hc1 ?_
   refine V_mv rfl rfl ?_
   refine V_ge rfl rfl rfl hc1 ?_
   refine V_y (Y_lenStr rfl Tryz.underlying9 rfl) rfl rfl rfl ?_
   refine V_ge rfl rfl rfl hc1 ?_
   refine V_mv rfl rfl ?_
   refine V_ge rfl rfl rfl hc1 ?_
   refine V_y (Y_lenStr rfl Tryz.underlying9 rfl) rfl rfl rfl ?_
   refine V_ge rfl rfl rfl hc1 ?_
   refine V_y (Y_subI rfl rfl) rfl rfl rfl ?_
   refine V_ge rfl rfl rfl hc1 ?_
   obtain ⟨x3, hx3, hs2⟩ := Option.bind_eq_some_iff.1 hs2
   refine V_y (Y_sliceSL hx3 Tryz.underlying9 rfl rfl) rfl rfl rfl ?_
   refine V_ge rfl rfl rfl hc1 ?_
   refine V_mv rfl rfl ?_
   refine V_ge rfl rfl rfl hc1 ?_
   refine V_y (Y_seql rfl rfl) rfl rfl rfl ?_
   refine V_y (Y_pick_te rfl hc1 rfl) rfl rfl rfl ?_
   obtain rfl := Option.some.inj hs2
   exact V_end fun a ha => ⟨(), ha.sub ⟨rfl, trivial⟩, rfl⟩
  ·rw [if_neg (nt hc1)] at hs2
   refine V_gn rfl rfl rfl hc1 rfl rfl rfl ?_
   refine V_gn rfl rfl rfl hc1 rfl rfl rfl ?_
   refine V_gn rfl rfl rfl hc1 rfl rfl rfl ?_
   refine V_gn rfl rfl rfl hc1 rfl rfl rfl ?_
   refine V_gn rfl rfl rfl hc1 rfl rfl rfl ?_
   refine V_gn rfl rfl rfl hc1 rfl rfl rfl ?_
   refine V_gn rfl rfl rfl hc1 rfl rfl rfl ?_
   refine V_gn rfl rfl rfl hc1 rfl rfl rfl ?_
   refine V_gn rfl rfl rfl hc1 rfl rfl rfl ?_
   refine V_y (Y_pick_fe rfl hc1 rfl) rfl rfl rfl ?_
   obtain rfl := Option.some.inj hs2
   exact V_end fun a ha => ⟨(), ha.sub ⟨rfl, trivial⟩, rfl⟩
 simp only [List.take, List.drop]
 rintro _ _ rfl
 refine V_as rfl rfl ?_
 refine V_to (fun _ _ => rfl) ?_
 obtain rfl := Option.some.inj hm
 refine C_ret ?_
 try simp only [↓inBlock_ret, ↓then_ret]
 exact retQ rfl (Res.one Tryz.results85 rfl) ⟨rfl, rfl⟩

set_option maxRecDepth 4000 in
set_option maxHeartbeats 4000000 in
theorem strings_HasSuffix_c (w : World) (s : ByteArray) (suffix : ByteArray) {r : Bool} (hm : strings_HasSuffix s suffix = some r) : Ret Tryz.prog 60 #[.string s, .string suffix] w fun v w' => v = .bool r ∧ w = w' := by
 unfold strings_HasSuffix at hm
 refine enter Tryz.func60 rfl Tryz.ntmps60 rfl ?_
 refine C_seq ?_
 refine C_region ?_
 refine V_as rfl rfl ?_
 refine V_to (fun _ _ => rfl) ?_
 refine C_seq ?_
 refine C_region ?_
 refine V_mv rfl rfl ?_
 refine V_mv rfl rfl ?_
 obtain ⟨x1, hx1, hm⟩ := Option.bind_eq_some_iff.1 hm
 refine V_call Tryz.call85 rfl rfl rfl rfl (internal_stringslite_HasSuffix_c w s suffix hx1) ?_
 rintro _ _ ⟨rfl, rfl⟩
 refine V_as rfl rfl ?_
 refine V_to (fun _ _ => rfl) ?_
 obtain rfl := Option.some.inj hm
 refine C_ret ?_
 try simp only [↓inBlock_ret, ↓then_ret]
 exact retQ rfl (Res.one Tryz.results60 rfl) ⟨rfl, rfl⟩

set_option maxRecDepth 4000 in
set_option maxHeartbeats 4000000 in
theorem know_Stem_c (w : World) (word : ByteArray) {r : ByteArray} (hm : know_Stem word = some r) : Ret Tryz.prog 27 #[.string word] w fun v w' => v = .string r ∧ w = w' := by
 unfold know_Stem at hm
 refine enter Tryz.func27 rfl Tryz.ntmps27 rfl ?_
 refine C_seq ?_
 refine C_region ?_
 refine V_as rfl rfl ?_
 refine V_to (fun _ _ => rfl) ?_
 refine C_seq ?_
 refine C_seq ?_
 refine C_region ?_
 refine V_mv rfl rfl ?_
 refine V_y (Y_lenStr rfl Tryz.underlying9 rfl) rfl rfl rfl ?_
 refine V_mv rfl rfl ?_
 refine V_to (fun _ _ => rfl) ?_
 obtain ⟨o1, ho1, hm⟩ := Option.bind_eq_some_iff.1 hm
 refine C_cutG (ι := Int) (fun (s2 : Int) => [(0, .string word)]) (fun (s2 : Int) => fun w' => o1 = .fin s2 ∧ w = w') ?_ ?_
 ·refine C_block ?_
  refine C_while ho1 (fun s8 a w' => ∃ i : Unit, Has ⟨77, [], none⟩ a ([(0, .string word), (6, .int .i64 (word.size : Int)), (7, .int .i64 s8)]) ∧ w = w') (fun a ha => ⟨(), ha.sub ⟨rfl, rfl, rfl, trivial⟩, rfl⟩) ?_
  rintro K s8 a _ ⟨_, ha24, rfl⟩ K16
  refine C_of ?_ ha24
  obtain ⟨x10, h11, h12⟩ := K16
  refine C_seq ?_
  refine C_region ?_
  refine V_y (Y_lss rfl rfl) rfl rfl rfl ?_
  refine V_to (fun _ _ => rfl) ?_
  refine C_seq ?_
  refine C_cond rfl (fun hc17 => ?_) (fun hc17 => ?_)
  ·rw [if_pos hc17] at h11
   refine C_skip_to (fun _ _ => rfl) ?_
   refine C_seq ?_
   refine C_block ?_
   refine C_seq ?_
   refine C_region ?_
   refine V_mv rfl rfl ?_
   refine V_as rfl rfl ?_
   refine V_to (fun _ _ => rfl) ?_
   refine C_seq ?_
   refine C_region ?_
   refine V_mv rfl rfl ?_
   refine V_mv rfl rfl ?_
   obtain ⟨x18, hx18, h11⟩ := Option.bind_eq_some_iff.1 h11
   refine V_y (Y_indexS hx18 Tryz.underlying9 rfl rfl) rfl rfl rfl ?_
   refine V_y (Y_lss rfl rfl) rfl rfl rfl ?_
   refine V_mv rfl rfl ?_
   obtain ⟨s20, hs20, h11⟩ := Option.bind_eq_some_iff.1 h11
   refine V_cut 5 (fun _ : Unit => [(0, .string word), (6, .int .i64 (word.size : Int)), (7, .int .i64 s8), (19, .bool s20)]) (fun _ w' => w = w') ?_ ?_
   ·simp only [List.take, List.drop]
    rcases Bool.eq_false_or_eq_true (decide ((x18.toNat : Int) < 97)) with hc19 | hc19
    ·rw [if_pos hc19] at hs20
     refine V_gn rfl rfl rfl hc19 rfl rfl rfl ?_
     refine V_gn rfl rfl rfl hc19 rfl rfl rfl ?_
     refine V_gn rfl rfl rfl hc19 rfl rfl rfl ?_
     refine V_gn rfl rfl rfl hc19 rfl rfl rfl ?_
     refine V_y (Y_pick_te rfl hc19 rfl) rfl rfl rfl ?_
     obtain rfl := Option.some.inj hs20
     exact V_end fun a ha => ⟨(), ha.sub ⟨rfl, rfl, rfl, rfl, trivial⟩, rfl⟩
    ·rw [if_neg (nt hc19)] at hs20
     refine V_ge rfl rfl rfl hc19 ?_
     refine V_mv rfl rfl ?_
     refine V_ge rfl rfl rfl hc19 ?_
     refine V_mv rfl rfl ?_
     refine V_ge rfl rfl rfl hc19 ?_
     refine V_y (Y_indexS hx18 Tryz.underlying9 rfl rfl) rfl rfl rfl ?_
     refine V_ge rfl rfl rfl hc19 ?_
     refine V_y (Y_gtr rfl rfl) rfl rfl rfl ?_
     refine V_y (Y_pick_fe rfl hc19 rfl) rfl rfl rfl ?_
     obtain rfl := Option.some.inj hs20
     exact V_end fun a ha => ⟨(), ha.sub ⟨rfl, rfl, rfl, rfl, trivial⟩, rfl⟩
   simp only [List.take, List.drop]
   rintro _ _ rfl
   refine V_to (fun _ _ => rfl) ?_
   refine C_cond rfl (fun hc21 => ?_) (fun hc21 => ?_)
   ·rw [if_pos hc21] at h11
    refine C_seq ?_
    refine C_region ?_
    refine V_mv rfl rfl ?_
    refine V_as rfl rfl ?_
    refine V_to (fun _ _ => rfl) ?_
    obtain rfl := Option.some.inj h11
    obtain rfl := (h12 : Lp.rt _ = _)
    rw [Lp.andThen_rt] at hm
    obtain rfl := Option.some.inj hm
    refine C_ret ?_
    try simp only [↓inBlock_ret, ↓then_ret]
    exact retQ rfl (Res.one Tryz.results27 rfl) ⟨rfl, rfl⟩
   ·rw [if_neg (nt hc21)] at h11
    refine C_skip_to (fun _ _ => rfl) ?_
    refine C_region ?_
    refine V_y (Y_addI rfl rfl) rfl rfl rfl ?_
    refine V_mv rfl rfl ?_
    obtain rfl := Option.some.inj h11
    refine V_end (fun a ha22 => ?_)
    exact ⟨w64 (s8 + 1), h12, ⟨(), ha22.sub ⟨rfl, rfl, rfl, trivial⟩, rfl⟩⟩
  ·rw [if_neg (nt hc17)] at h11
   obtain rfl := Option.some.inj h11
   refine C_exit (fun a ha23 => ?_)
   exact ⟨s8, ha23.sub ⟨rfl, trivial⟩, ⟨h12.symm, rfl⟩⟩
 rintro s2 _ ⟨rfl, rfl⟩ a ha7
 rw [Lp.andThen_fin] at hm
 refine C_at (n := ⟨77, [], none⟩) (fun _ _ => rfl) ?_ ha7
 refine C_seq ?_
 refine C_region ?_
 refine V_mv rfl rfl ?_
 refine V_y (Y_lenStr rfl Tryz.underlying9 rfl) rfl rfl rfl ?_
 refine V_as rfl rfl ?_
 refine V_to (fun _ _ => rfl) ?_
 refine C_seq ?_
 refine C_block ?_
 refine C_seq ?_
 refine C_region ?_
 refine V_mv rfl rfl ?_
 refine V_y (Y_lss rfl rfl) rfl rfl rfl ?_
 refine V_as rfl rfl ?_
 refine V_to (fun _ _ => rfl) ?_
 refine C_cond rfl (fun hc25 => ?_) (fun hc25 => ?_)
 ·rw [if_pos hc25] at hm
  refine C_seq ?_
  refine C_region ?_
  refine V_mv rfl rfl ?_
  refine V_as rfl rfl ?_
  refine V_to (fun _ _ => rfl) ?_
  obtain rfl := Option.some.inj hm
  refine C_ret ?_
  try simp only [↓inBlock_ret, ↓then_ret]
  exact retQ rfl (Res.one Tryz.results27 rfl) ⟨rfl, rfl⟩
 ·rw [if_neg (nt hc25)] at hm
  refine C_seq ?_
  refine C_region ?_
  refine V_mv rfl rfl ?_
  obtain ⟨x26, hx26, hm⟩ := Option.bind_eq_some_iff.1 hm
  refine V_call Tryz.call60 rfl rfl rfl rfl (strings_HasSuffix_c w word (⟨#[105, 101, 115]⟩ : ByteArray) hx26) ?_
  rintro _ _ ⟨rfl, rfl⟩
  refine V_as rfl rfl ?_
  refine V_to (fun _ _ => rfl) ?_
  refine C_cond rfl (fun hc27 => ?_) (fun hc27 => ?_)
  ·rw [if_pos hc27] at hm
   refine C_seq ?_
   refine C_region ?_
   refine V_mv rfl rfl ?_
   refine V_mv rfl rfl ?_
   refine V_y (Y_subI rfl rfl) rfl rfl rfl ?_
   obtain ⟨x28, hx28, hm⟩ := Option.bind_eq_some_iff.1 hm
   refine V_y (Y_sliceSH hx28 Tryz.underlying9 rfl rfl) rfl rfl rfl ?_
   obtain ⟨x29, hx29, hm⟩ := Option.bind_eq_some_iff.1 hm
   refine V_y (Y_sadd hx29 rfl rfl) rfl rfl rfl ?_
   refine V_as rfl rfl ?_
   refine V_to (fun _ _ => rfl) ?_
   obtain rfl := Option.some.inj hm
   refine C_ret ?_
   try simp only [↓inBlock_ret, ↓then_ret]
   exact retQ rfl (Res.one Tryz.results27 rfl) ⟨rfl, rfl⟩
  ·rw [if_neg (nt hc27)] at hm
   refine C_seq ?_
   refine C_region ?_
   refine V_mv rfl rfl ?_
   obtain ⟨x30, hx30, hm⟩ := Option.bind_eq_some_iff.1 hm
   refine V_call Tryz.call60 rfl rfl rfl rfl (strings_HasSuffix_c w word (⟨#[115, 115, 101, 115]⟩ : ByteArray) hx30) ?_
   rintro _ _ ⟨rfl, rfl⟩
   refine V_as rfl rfl ?_
   refine V_to (fun _ _ => rfl) ?_
   refine C_cond rfl (fun hc31 => ?_) (fun hc31 => ?_)
   ·rw [if_pos hc31] at hm
    refine C_seq ?_
    refine C_region ?_
    refine V_mv rfl rfl ?_
    refine V_mv rfl rfl ?_
    refine V_y (Y_subI rfl rfl) rfl rfl rfl ?_
    obtain ⟨x32, hx32, hm⟩ := Option.bind_eq_some_iff.1 hm
    refine V_y (Y_sliceSH hx32 Tryz.underlying9 rfl rfl) rfl rfl rfl ?_
    refine V_as rfl rfl ?_
    refine V_to (fun _ _ => rfl) ?_
    obtain rfl := Option.some.inj hm
    refine C_ret ?_
    try simp only [↓inBlock_ret, ↓then_ret]
    exact retQ rfl (Res.one Tryz.results27 rfl) ⟨rfl, rfl⟩
   ·rw [if_neg (nt hc31)] at hm
    refine C_seq ?_
    refine C_region ?_
    refine V_mv rfl rfl ?_
    obtain ⟨x33, hx33, hm⟩ := Option.bind_eq_some_iff.1 hm
    refine V_call Tryz.call60 rfl rfl rfl rfl (strings_HasSuffix_c w word (⟨#[115, 115]⟩ : ByteArray) hx33) ?_
    rintro _ _ ⟨rfl, rfl⟩
    refine V_as rfl rfl ?_
    refine V_to (fun _ _ => rfl) ?_
    refine C_cond rfl (fun hc34 => ?_) (fun hc34 => ?_)
    ·rw [if_pos hc34] at hm
     refine C_seq ?_
     refine C_region ?_
     refine V_mv rfl rfl ?_
     refine V_as rfl rfl ?_
     refine V_to (fun _ _ => rfl) ?_
     obtain rfl := Option.some.inj hm
     refine C_ret ?_
     try simp only [↓inBlock_ret, ↓then_ret]
     exact retQ rfl (Res.one Tryz.results27 rfl) ⟨rfl, rfl⟩
    ·rw [if_neg (nt hc34)] at hm
     refine C_seq ?_
     refine C_region ?_
     refine V_mv rfl rfl ?_
     obtain ⟨x35, hx35, hm⟩ := Option.bind_eq_some_iff.1 hm
     refine V_call Tryz.call60 rfl rfl rfl rfl (strings_HasSuffix_c w word (⟨#[115]⟩ : ByteArray) hx35) ?_
     rintro _ _ ⟨rfl, rfl⟩
     refine V_as rfl rfl ?_
     refine V_to (fun _ _ => rfl) ?_
     refine C_cond rfl (fun hc36 => ?_) (fun hc36 => ?_)
     ·rw [if_pos hc36] at hm
      refine C_seq ?_
      refine C_region ?_
      refine V_mv rfl rfl ?_
      refine V_mv rfl rfl ?_
      refine V_y (Y_subI rfl rfl) rfl rfl rfl ?_
      obtain ⟨x37, hx37, hm⟩ := Option.bind_eq_some_iff.1 hm
      refine V_y (Y_sliceSH hx37 Tryz.underlying9 rfl rfl) rfl rfl rfl ?_
      refine V_as rfl rfl ?_
      refine V_to (fun _ _ => rfl) ?_
      obtain rfl := Option.some.inj hm
      refine C_ret ?_
      try simp only [↓inBlock_ret, ↓then_ret]
      exact retQ rfl (Res.one Tryz.results27 rfl) ⟨rfl, rfl⟩
     ·rw [if_neg (nt hc36)] at hm
      refine C_seq ?_
      refine C_region ?_
      refine V_mv rfl rfl ?_
      obtain ⟨x38, hx38, hm⟩ := Option.bind_eq_some_iff.1 hm
      refine V_call Tryz.call60 rfl rfl rfl rfl (strings_HasSuffix_c w word (⟨#[105, 110, 103]⟩ : ByteArray) hx38) ?_
      rintro _ _ ⟨rfl, rfl⟩
      refine V_mv rfl rfl ?_
      refine V_cut 3 (fun _ : Unit => [(0, .string word), (4, .int .i64 (word.size : Int)), (60, .bool (x38 && (decide ((6 : Int) ≤ (word.size : Int)))))]) (fun _ w' => w = w') ?_ ?_
      ·simp only [List.take, List.drop]
       rcases Bool.eq_false_or_eq_true (x38) with hc39 | hc39
       ·refine V_ge rfl rfl rfl hc39 ?_
        refine V_mv rfl rfl ?_
        refine V_ge rfl rfl rfl hc39 ?_
        refine V_y (Y_geq rfl rfl) rfl rfl rfl ?_
        refine V_y (Y_pick_te rfl hc39 rfl) rfl rfl rfl ?_
        exact V_end fun a ha => ⟨(), ha.sub ⟨rfl, rfl, (by rw [hc39]; rfl), trivial⟩, rfl⟩
       ·refine V_gn rfl rfl rfl hc39 rfl rfl rfl ?_
        refine V_gn rfl rfl rfl hc39 rfl rfl rfl ?_
        refine V_y (Y_pick_fe rfl hc39 rfl) rfl rfl rfl ?_
        exact V_end fun a ha => ⟨(), ha.sub ⟨rfl, rfl, (by rw [hc39]; rfl), trivial⟩, rfl⟩
      simp only [List.take, List.drop]
      rintro _ _ rfl
      refine V_as rfl rfl ?_
      refine V_to (fun _ _ => rfl) ?_
      refine C_cond rfl (fun hc41 => ?_) (fun hc41 => ?_)
      ·rw [if_pos hc41] at hm
       refine C_seq ?_
       refine C_region ?_
       refine V_mv rfl rfl ?_
       refine V_mv rfl rfl ?_
       refine V_y (Y_subI rfl rfl) rfl rfl rfl ?_
       obtain ⟨x42, hx42, hm⟩ := Option.bind_eq_some_iff.1 hm
       refine V_y (Y_sliceSH hx42 Tryz.underlying9 rfl rfl) rfl rfl rfl ?_
       refine V_as rfl rfl ?_
       refine V_to (fun _ _ => rfl) ?_
       obtain rfl := Option.some.inj hm
       refine C_ret ?_
       try simp only [↓inBlock_ret, ↓then_ret]
       exact retQ rfl (Res.one Tryz.results27 rfl) ⟨rfl, rfl⟩
      ·rw [if_neg (nt hc41)] at hm
       refine C_seq ?_
       refine C_region ?_
       refine V_mv rfl rfl ?_
       obtain ⟨x43, hx43, hm⟩ := Option.bind_eq_some_iff.1 hm
       refine V_call Tryz.call60 rfl rfl rfl rfl (strings_HasSuffix_c w word (⟨#[101, 100]⟩ : ByteArray) hx43) ?_
       rintro _ _ ⟨rfl, rfl⟩
       refine V_mv rfl rfl ?_
       refine V_cut 3 (fun _ : Unit => [(0, .string word), (4, .int .i64 (word.size : Int)), (71, .bool (x43 && (decide ((5 : Int) ≤ (word.size : Int)))))]) (fun _ w' => w = w') ?_ ?_
       ·simp only [List.take, List.drop]
        rcases Bool.eq_false_or_eq_true (x43) with hc44 | hc44
        ·refine V_ge rfl rfl rfl hc44 ?_
         refine V_mv rfl rfl ?_
         refine V_ge rfl rfl rfl hc44 ?_
         refine V_y (Y_geq rfl rfl) rfl rfl rfl ?_
         refine V_y (Y_pick_te rfl hc44 rfl) rfl rfl rfl ?_
         exact V_end fun a ha => ⟨(), ha.sub ⟨rfl, rfl, (by rw [hc44]; rfl), trivial⟩, rfl⟩
        ·refine V_gn rfl rfl rfl hc44 rfl rfl rfl ?_
         refine V_gn rfl rfl rfl hc44 rfl rfl rfl ?_
         refine V_y (Y_pick_fe rfl hc44 rfl) rfl rfl rfl ?_
         exact V_end fun a ha => ⟨(), ha.sub ⟨rfl, rfl, (by rw [hc44]; rfl), trivial⟩, rfl⟩
       simp only [List.take, List.drop]
       rintro _ _ rfl
       refine V_as rfl rfl ?_
       refine V_to (fun _ _ => rfl) ?_
       refine C_cond rfl (fun hc46 => ?_) (fun hc46 => ?_)
       ·rw [if_pos hc46] at hm
        refine C_seq ?_
        refine C_region ?_
        refine V_mv rfl rfl ?_
        refine V_mv rfl rfl ?_
        refine V_y (Y_subI rfl rfl) rfl rfl rfl ?_
        obtain ⟨x47, hx47, hm⟩ := Option.bind_eq_some_iff.1 hm
        refine V_y (Y_sliceSH hx47 Tryz.underlying9 rfl rfl) rfl rfl rfl ?_
        refine V_as rfl rfl ?_
        refine V_to (fun _ _ => rfl) ?_
        obtain rfl := Option.some.inj hm
        refine C_ret ?_
        try simp only [↓inBlock_ret, ↓then_ret]
        exact retQ rfl (Res.one Tryz.results27 rfl) ⟨rfl, rfl⟩
       ·rw [if_neg (nt hc46)] at hm
        refine C_skip_to (fun _ _ => rfl) ?_
        refine C_seq ?_
        refine C_region ?_
        refine V_mv rfl rfl ?_
        refine V_as rfl rfl ?_
        refine V_to (fun _ _ => rfl) ?_
        obtain rfl := Option.some.inj hm
        refine C_ret ?_
        try simp only [↓inBlock_ret, ↓then_ret]
        exact retQ rfl (Res.one Tryz.results27 rfl) ⟨rfl, rfl⟩

set_option maxRecDepth 4000 in
set_option maxHeartbeats 4000000 in
theorem slices_BinarySearchFunc_Lknow_Term_know_Term_string_c (w : World) {A : Nat → Prop} (hA : ∀ b, w.heap.size ≤ b → A b) (x : (List know_Term)) (v_x : Value) (h_x : Sl A w v_x x) (target : ByteArray) (cmp : know_Term → ByteArray → Option Int) (cmp_f : FuncId) (cmp_a cmp_c : Array Value) (cmp_call : ∀ (args : Array Value) (w : World), (callFunc cmp_f args).run Tryz.prog w = .ok (.enter cmp_f args) w) (cmp_spec : ∀ (w1 : World) (A1 : Nat → Prop), Tr Dw w.heap.size A w A1 w1 → (∀ b, w1.heap.size ≤ b → A1 b) → ∀ (y0 : know_Term) (v1 : Value) (h2 : Sl A1 w1 v1 y0.list_) (y1 : ByteArray) (r : Int), cmp y0 y1 = some r → Ret Tryz.prog cmp_f (cmp_a ++ #[.agg #[.string y0.word, v1], .string y1] ++ cmp_c) w1 fun v w' => v = .int .i64 r ∧ Kp Dw w1 w') {r : (Int × Bool)} (hm : slices_BinarySearchFunc_Lknow_Term_know_Term_string x target cmp = some r) : Ret Tryz.prog 61 #[v_x, .string target, .func (.func cmp_f) cmp_a cmp_c] w fun v w' => v = .tuple #[.int .i64 r.1, .bool r.2] ∧ Kp Dw w w' := by
 unfold slices_BinarySearchFunc_Lknow_Term_know_Term_string at hm
 refine enter Tryz.func61 rfl Tryz.ntmps61 rfl ?_
 have hA0 := hA
 have hB := Nat.le_refl w.heap.size
 have hK : Tr Dw w.heap.size A w A w := Tr.refl (Dw := Dw) hA
 have hH : Hp w.heap.size A w [] := Hp.nil
 refine C_seq ?_
 refine C_region ?_
 refine V_as rfl rfl ?_
 refine V_as rfl rfl ?_
 refine V_to (fun _ _ => rfl) ?_
 refine C_seq ?_
 refine C_region ?_
 refine V_mv rfl rfl ?_
 refine V_y (Y_lenSl h_x rfl Tryz.underlying23 rfl) rfl rfl rfl ?_
 refine V_as rfl rfl ?_
 refine V_to (fun _ _ => rfl) ?_
 refine C_seq ?_
 refine C_region ?_
 refine V_mv rfl rfl ?_
 refine V_as rfl rfl ?_
 refine V_as rfl rfl ?_
 refine V_to (fun _ _ => rfl) ?_
 refine C_seq ?_
 obtain ⟨o3, ho3, hm⟩ := Option.bind_eq_some_iff.1 hm
 refine C_cutG (ι := ((Int × Int) × (Nat → Prop))) (fun ⟨s4, A10⟩ => [(0, v_x), (1, .string target), (2, .func (.func cmp_f) cmp_a cmp_c), (8, .int .i64 (x.length : Int)), (9, .int .i64 s4.1)]) (fun ⟨s4, A10⟩ => fun w' => o3 = .fin s4 ∧ Hp w.heap.size A10 w' ([]) ∧ Tr Dw w.heap.size A w A10 w') ?_ ?_
 ·refine C_block ?_
  refine C_while ho3 (fun s12 a w' => ∃ i : (Nat → Prop), Has ⟨49, [], none⟩ a ([(0, v_x), (1, .string target), (2, .func (.func cmp_f) cmp_a cmp_c), (8, .int .i64 (x.length : Int)), (9, .int .i64 s12.1), (10, .int .i64 s12.2)]) ∧ Hp w.heap.size i w' ([]) ∧ Tr Dw w.heap.size A w i w') (fun a ha => ⟨A, ha.sub ⟨rfl, rfl, rfl, rfl, rfl, rfl, trivial⟩, ⟨hH, Tr.refl (Dw := Dw) hA⟩⟩) ?_
  rintro K s12 a w13 ⟨A14, ha56, hH15, hr5⟩ K22
  refine C_of ?_ ha56
  replace h_x := Sl.tr h_x hr5
  replace hK := Tr.trans hK hr5
  replace hB := Nat.le_trans hB hr5.ex.size
  replace hA := hr5.new
  replace hH : Hp w.heap.size A14 w13 ([]) := hH15
  obtain ⟨x16, h17, h18⟩ := K22
  refine C_seq ?_
  refine C_seq ?_
  refine C_region ?_
  refine V_mv rfl rfl ?_
  refine V_mv rfl rfl ?_
  refine V_y (Y_lss rfl rfl) rfl rfl rfl ?_
  refine V_to (fun _ _ => rfl) ?_
  refine C_cond rfl (fun hc23 => ?_) (fun hc23 => ?_)
  ·rw [if_pos hc23] at h17
   refine C_skip_to (fun _ _ => rfl) ?_
   obtain ⟨s25, ho24, h17⟩ := Option.bind_eq_some_iff.1 h17
   refine C_cutG (ι := (Nat → Prop)) (fun (A30 : (Nat → Prop)) => [(0, v_x), (1, .string target), (2, .func (.func cmp_f) cmp_a cmp_c), (8, .int .i64 (x.length : Int)), (9, .int .i64 s25.1), (10, .int .i64 s25.2)]) (fun (A30 : (Nat → Prop)) => fun w' => Hp w.heap.size A30 w' ([]) ∧ Tr Dw w.heap.size A14 w13 A30 w') ?_ ?_
   ·have hr26 : Tr Dw w.heap.size A14 w13 A14 w13 := Tr.refl (Dw := Dw) hA
    refine C_block ?_
    refine C_seq ?_
    refine C_region ?_
    refine V_mv rfl rfl ?_
    refine V_mv rfl rfl ?_
    refine V_y (Y_addI rfl rfl) rfl rfl rfl ?_
    refine V_y (Y_convI Tryz.underlying3 Tryz.underlying74 rfl) rfl rfl rfl ?_
    obtain ⟨x32, hx32, ho24⟩ := Option.bind_eq_some_iff.1 ho24
    refine V_y (Y_shr hx32 rfl rfl) rfl rfl rfl ?_
    refine V_y (Y_convI Tryz.underlying74 Tryz.underlying3 rfl) rfl rfl rfl ?_
    refine V_as rfl rfl ?_
    refine V_to (fun _ _ => rfl) ?_
    refine C_seq ?_
    refine C_region ?_
    refine V_mv rfl rfl ?_
    refine V_mv rfl rfl ?_
    refine V_mv rfl rfl ?_
    obtain ⟨x33, hx33, ho24⟩ := Option.bind_eq_some_iff.1 ho24
    refine V_indexAddr h_x hx33 Tryz.underlying23 Tryz.sizeOf51 rfl rfl rfl ?_
    intro b34 o35 h36
    obtain ⟨v37, h39, h38⟩ := El_know_Term h36
    refine V_y (Y_loadA h39 Tryz.isAgg51 Tryz.sizeOf51 rfl) rfl rfl rfl ?_
    refine V_mv rfl rfl ?_
    obtain ⟨x40, hx40, ho24⟩ := Option.bind_eq_some_iff.1 ho24
    refine V_call cmp_call rfl rfl rfl rfl (cmp_spec w13 _ hK hA x33 v37 h38 target _ hx40) ?_
    rintro _ w41 ⟨rfl, hk42⟩
    have ht43 := Kp.tr hk42 hA hB
    replace hH := Hp.kp hH hk42
    replace hr26 := Tr.trans hr26 ht43
    refine V_y (Y_lss rfl rfl) rfl rfl rfl ?_
    refine V_to (fun _ _ => rfl) ?_
    obtain ⟨s45, ho44, ho24⟩ := Option.bind_eq_some_iff.1 ho24
    refine C_cutG (ι := Unit) (fun (_ : Unit) => [(0, v_x), (1, .string target), (2, .func (.func cmp_f) cmp_a cmp_c), (8, .int .i64 (x.length : Int)), (9, .int .i64 s45.1), (10, .int .i64 s45.2)]) (fun (_ : Unit) => fun w' => w41 = w') ?_ ?_
    ·refine C_cond rfl (fun hc50 => ?_) (fun hc50 => ?_)
     ·rw [if_pos hc50] at ho44
      refine C_region ?_
      refine V_mv rfl rfl ?_
      refine V_y (Y_addI rfl rfl) rfl rfl rfl ?_
      refine V_as rfl rfl ?_
      obtain rfl := Option.some.inj ho44
      refine V_end (fun a ha51 => ?_)
      exact ⟨(), ha51.sub ⟨rfl, rfl, rfl, rfl, rfl, rfl, trivial⟩, rfl⟩
     ·rw [if_neg (nt hc50)] at ho44
      refine C_region ?_
      refine V_mv rfl rfl ?_
      refine V_as rfl rfl ?_
      obtain rfl := Option.some.inj ho44
      refine V_end (fun a ha52 => ?_)
      exact ⟨(), ha52.sub ⟨rfl, rfl, rfl, rfl, rfl, rfl, trivial⟩, rfl⟩
    rintro _ _ rfl a ha49
    obtain rfl := Option.some.inj ho24
    exact ⟨A14, ha49.sub ⟨rfl, rfl, rfl, rfl, rfl, rfl, trivial⟩, ⟨hH, hr26⟩⟩
   rintro A30 w27 ⟨hH31, hk28⟩ a ha29
   replace hr5 := Tr.trans hr5 hk28
   replace hA := hk28.new
   replace hH : Hp w.heap.size A30 w27 ([]) := hH31
   obtain rfl := Option.some.inj h17
   exact ⟨(s25.1, s25.2), h18, ⟨A30, ha29.sub ⟨rfl, rfl, rfl, rfl, rfl, rfl, trivial⟩, ⟨hH, hr5⟩⟩⟩
  ·rw [if_neg (nt hc23)] at h17
   obtain rfl := Option.some.inj h17
   refine C_exit (fun a ha55 => ?_)
   exact ⟨((s12.1, s12.2), A14), ha55.sub ⟨rfl, rfl, rfl, rfl, rfl, trivial⟩, ⟨h18.symm, hH, hr5⟩⟩
 rintro ⟨s4, A10⟩ w7 ⟨rfl, hH11, hk8⟩ a ha9
 rw [Lp.andThen_fin] at hm
 replace h_x := Sl.tr h_x hk8
 replace hK := Tr.trans hK hk8
 replace hB := Nat.le_trans hB hk8.ex.size
 replace hA := hk8.new
 replace hH : Hp w.heap.size A10 w7 ([]) := hH11
 refine C_at (n := ⟨49, [], none⟩) (fun _ _ => rfl) ?_ ha9
 refine C_seq ?_
 obtain ⟨s58, ho57, hm⟩ := Option.bind_eq_some_iff.1 hm
 refine C_cutG (ι := (Nat → Prop)) (fun (A63 : (Nat → Prop)) => [(6, .int .i64 s58.1), (7, .bool s58.2)]) (fun (A63 : (Nat → Prop)) => fun w' => Hp w.heap.size A63 w' ([]) ∧ Tr Dw w.heap.size A10 w7 A63 w') ?_ ?_
 ·have hr59 : Tr Dw w.heap.size A10 w7 A10 w7 := Tr.refl (Dw := Dw) hA
  refine C_region ?_
  refine V_mv rfl rfl ?_
  refine V_mv rfl rfl ?_
  refine V_mv rfl rfl ?_
  refine V_y (Y_lss rfl rfl) rfl rfl rfl ?_
  refine V_mv rfl rfl ?_
  rcases Bool.eq_false_or_eq_true (decide (s4.1 < (x.length : Int))) with hc65 | hc65
  ·rw [if_pos hc65] at ho57
   refine V_ge rfl rfl rfl hc65 ?_
   refine V_mv rfl rfl ?_
   refine V_ge rfl rfl rfl hc65 ?_
   refine V_mv rfl rfl ?_
   refine V_ge rfl rfl rfl hc65 ?_
   refine V_mv rfl rfl ?_
   refine V_ge rfl rfl rfl hc65 ?_
   obtain ⟨x66, hx66, ho57⟩ := Option.bind_eq_some_iff.1 ho57
   refine V_indexAddr h_x hx66 Tryz.underlying23 Tryz.sizeOf51 rfl rfl rfl ?_
   intro b67 o68 h69
   refine V_ge rfl rfl rfl hc65 ?_
   obtain ⟨v70, h72, h71⟩ := El_know_Term h69
   refine V_y (Y_loadA h72 Tryz.isAgg51 Tryz.sizeOf51 rfl) rfl rfl rfl ?_
   refine V_ge rfl rfl rfl hc65 ?_
   refine V_mv rfl rfl ?_
   refine V_ge rfl rfl rfl hc65 ?_
   obtain ⟨x73, hx73, ho57⟩ := Option.bind_eq_some_iff.1 ho57
   refine V_call cmp_call rfl rfl rfl rfl (cmp_spec w7 _ hK hA x66 v70 h71 target _ hx73) ?_
   rintro _ w74 ⟨rfl, hk75⟩
   have ht76 := Kp.tr hk75 hA hB
   replace hH := Hp.kp hH hk75
   replace hr59 := Tr.trans hr59 ht76
   refine V_ge rfl rfl rfl hc65 ?_
   refine V_y (Y_eql rfl rfl) rfl rfl rfl ?_
   refine V_y (Y_pick_te rfl hc65 rfl) rfl rfl rfl ?_
   refine V_as rfl rfl ?_
   refine V_as rfl rfl ?_
   obtain rfl := Option.some.inj ho57
   refine V_end (fun a ha77 => ?_)
   exact ⟨A10, ha77.sub ⟨rfl, rfl, trivial⟩, ⟨hH, hr59⟩⟩
  ·rw [if_neg (nt hc65)] at ho57
   refine V_gn rfl rfl rfl hc65 rfl rfl rfl ?_
   refine V_gn rfl rfl rfl hc65 rfl rfl rfl ?_
   refine V_gn rfl rfl rfl hc65 rfl rfl rfl ?_
   refine V_gn rfl rfl rfl hc65 rfl rfl rfl ?_
   refine V_gn rfl rfl rfl hc65 rfl rfl rfl ?_
   refine V_gn rfl rfl rfl hc65 rfl rfl rfl ?_
   refine V_gn rfl rfl rfl hc65 rfl rfl rfl ?_
   refine V_gn rfl rfl rfl hc65 rfl rfl rfl ?_
   refine V_y (Y_pick_fe rfl hc65 rfl) rfl rfl rfl ?_
   refine V_as rfl rfl ?_
   refine V_as rfl rfl ?_
   obtain rfl := Option.some.inj ho57
   refine V_end (fun a ha78 => ?_)
   exact ⟨A10, ha78.sub ⟨rfl, rfl, trivial⟩, ⟨hH, hr59⟩⟩
 rintro A63 w60 ⟨hH64, hk61⟩ a ha62
 replace hK := Tr.trans hK hk61
 replace hA := hk61.new
 replace hH : Hp w.heap.size A63 w60 ([]) := hH64
 refine C_at (n := ⟨49, [], none⟩) (fun _ _ => rfl) ?_ ha62
 obtain rfl := Option.some.inj hm
 refine C_ret ?_
 try simp only [↓inBlock_ret, ↓then_ret]
 exact retQ rfl (Res.two Tryz.results61 rfl rfl) ⟨rfl, hK.kp⟩

def Tryz_strings_Compare_lay_ren : Go.Shelf.Ren := ⟨fun | 106 => 63 | 213 => 86 | 265 => 105 | n => n, fun | 0 => 0 | 1 => 1 | 2 => 2 | 3 => 3 | 4 => 4 | 5 => 5 | 6 => 6 | 7 => 7 | 8 => 8 | 9 => 9 | 10 => 10 | 11 => 11 | 12 => 12 | 13 => 13 | 14 => 14 | 15 => 15 | 16 => 16 | 17 => 17 | 18 => 18 | 19 => 19 | 20 => 20 | 21 => 21 | 22 => 61 | 23 => 118 | 27 => 105 | 28 => 22 | 29 => 87 | 30 => 80 | 31 => 42 | 37 => 95 | 40 => 159 | 41 => 90 | 43 => 77 | 46 => 74 | 47 => 73 | 51 => 114 | 52 => 113 | 53 => 116 | 54 => 115 | 55 => 158 | 63 => 149 | 64 => 153 | 67 => 59 | 68 => 57 | 69 => 63 | 70 => 94 | 71 => 96 | 72 => 97 | 73 => 98 | 74 => 99 | 75 => 100 | 76 => 101 | 77 => 102 | 80 => 103 | 81 => 166 | 104 => 89 | 105 => 147 | 106 => 148 | 111 => 108 | 112 => 120 | 114 => 160 | 115 => 132 | 116 => 133 | 117 => 134 | 118 => 135 | 119 => 154 | 122 => 131 | 123 => 136 | 124 => 137 | 127 => 122 | 131 => 91 | 137 => 155 | 138 => 156 | 139 => 157 | 164 => 138 | 165 => 139 | 166 => 140 | 182 => 125 | 183 => 126 | 218 => 141 | 219 => 142 | 220 => 143 | 222 => 145 | 228 => 150 | 229 => 151 | 238 => 161 | 239 => 162 | 240 => 163 | 241 => 164 | 242 => 165 | 243 => 167 | 244 => 168 | 245 => 169 | 246 => 170 | 247 => 171 | 248 => 172 | 249 => 173 | n => n, fun | 1 => 0 | 3 => 1 | 4 => 2 | n => n⟩
theorem Tryz_strings_Compare_lay : Go.Proofs.Lays.n106 Tryz.prog Tryz_strings_Compare_lay_ren := {
 mixed := by kernel_rfl,
 f106 := Tryz.func63.trans (congrArg some (by kernel_rfl)),
 f213 := Tryz.func86.trans (congrArg some (by kernel_rfl)),
 f265 := Tryz.func105.trans (congrArg some (by kernel_rfl)),
 t3 := Tryz.underlying3,
 a3 := Tryz.isAgg3,
 z3 := Tryz.sizeOf3,
 v3 := Tryz.zeroValue3,
 t9 := Tryz.underlying9,
 a9 := Tryz.isAgg9,
 z9 := Tryz.sizeOf9,
 v9 := Tryz.zeroValue9 }
theorem strings_Compare_c (w : World) {A : Nat → Prop} (hA : ∀ b, w.heap.size ≤ b → A b) (a : ByteArray) (b : ByteArray) {r : Int} (hm : strings_Compare a b = some r) : Ret Tryz.prog 63 #[.string a, .string b] w fun v w' => v = .int .i64 r ∧ Kp Dw w w' := by
 unfold strings_Compare at hm
 obtain rfl := Option.some.inj hm
 refine Calls.mono (Go.Proofs.Any.strings_Compare Tryz_strings_Compare_lay a b w) ?_
 rintro _ w' ⟨rfl, rfl⟩
 exact ⟨_, rfl, rfl, Kp.refl (Dw := Dw) _⟩

set_option maxRecDepth 4000 in
set_option maxHeartbeats 4000000 in
theorem know_Index_term_1_c (w : World) {A : Nat → Prop} (hA : ∀ b, w.heap.size ≤ b → A b) (t : know_Term) (v_t : Value) (h_t : Sl A w v_t t.list_) (w_ : ByteArray) {r : Int} (hm : know_Index_term_1 t w_ = some r) : Ret Tryz.prog 62 #[.agg #[.string t.word, v_t], .string w_] w fun v w' => v = .int .i64 r ∧ Kp Dw w w' := by
 unfold know_Index_term_1 at hm
 refine enter Tryz.func62 rfl Tryz.ntmps62 rfl ?_
 have hA0 := hA
 have hB := Nat.le_refl w.heap.size
 have hK : Tr Dw w.heap.size A w A w := Tr.refl (Dw := Dw) hA
 have hH : Hp w.heap.size A w [] := Hp.nil
 refine C_seq ?_
 refine C_region ?_
 refine V_box rfl rfl ?_
 intro b3 w4 h5
 have hk7 := h5.kp (Dw := Dw)
 have h6 : El (α := know_Term) A w4 b3 0 t := h5.el hA ⟨[.string t.word], _, rfl, rfl, ⟨_, rfl, h_t⟩⟩
 have ht8 := Kp.tr hk7 hA hB
 replace hK := Tr.trans hK ht8
 replace hB := Nat.le_trans hB ht8.ex.size
 replace hA := ht8.new
 refine V_as rfl rfl ?_
 refine V_to (fun _ _ => rfl) ?_
 refine C_seq ?_
 refine C_region ?_
 have h9 := El_know_Term_0 h6
 refine V_y (Y_fieldAddr Tryz.underlying51 rfl Tryz.sizeOf9 (by decide) rfl) rfl rfl rfl ?_
 refine V_y (Y_load (El.str h9) Tryz.isAgg9 rfl) rfl rfl rfl ?_
 refine V_mv rfl rfl ?_
 obtain ⟨x10, hx10, hm⟩ := Option.bind_eq_some_iff.1 hm
 refine V_call Tryz.call63 rfl rfl rfl rfl (strings_Compare_c (Dw := Dw) w4 hA t.word w_ hx10) ?_
 rintro _ w11 ⟨rfl, hk12⟩
 have ht13 := Kp.tr hk12 hA hB
 replace hK := Tr.trans hK ht13
 refine V_as rfl rfl ?_
 refine V_to (fun _ _ => rfl) ?_
 obtain rfl := Option.some.inj hm
 refine C_ret ?_
 try simp only [↓inBlock_ret, ↓then_ret]
 exact retQ rfl (Res.one Tryz.results62 rfl) ⟨rfl, hK.kp⟩

set_option maxRecDepth 4000 in
set_option maxHeartbeats 4000000 in
theorem know_Index_term_c (w : World) {A : Nat → Prop} (hA : ∀ b, w.heap.size ≤ b → A b) (x : know_Index) (v_x0 : Value) (h_x0 : Sl A w v_x0 x.ids) (v_x1 : Value) (h_x1 : Sl A w v_x1 x.sizes) (v_x2 : Value) (h_x2 : Sl A w v_x2 x.terms) (word : ByteArray) {r : (know_Term × Bool)} (hm : know_Index_term x word = some r) : Ret Tryz.prog 28 #[.agg #[v_x0, v_x1, v_x2], .string word] w fun v w' => ∃ s0, v = .tuple #[.agg #[.string r.1.word, s0], .bool r.2] ∧ Sl A w' s0 r.1.list_ ∧ Kp Dw w w' := by
 unfold know_Index_term at hm
 refine enter Tryz.func28 rfl Tryz.ntmps28 rfl ?_
 have hA0 := hA
 have hB := Nat.le_refl w.heap.size
 have hK : Tr Dw w.heap.size A w A w := Tr.refl (Dw := Dw) hA
 have hH : Hp w.heap.size A w [] := Hp.nil
 refine C_seq ?_
 refine C_region ?_
 refine V_box rfl rfl ?_
 intro b7 w9 h10
 have hk12 := h10.kp (Dw := Dw)
 have h11 : El (α := know_Index) A w9 b7 0 x := h10.el hA ⟨[v_x0], _, rfl, ⟨_, rfl, h_x0⟩, ⟨[v_x1], _, rfl, ⟨_, rfl, h_x1⟩, ⟨_, rfl, h_x2⟩⟩⟩
 have ht13 := Kp.tr hk12 hA hB
 replace hH := Hp.kp hH hk12
 replace hK := Tr.trans hK ht13
 replace hB := Nat.le_trans hB ht13.ex.size
 replace hA := ht13.new
 refine V_allocH (Dw := Dw) (B := w.heap.size) hH Tryz.zeroValue51 hB hA rfl ?_
 intro b14 w15 A16 hH17 ht18
 replace h11 := El.tr h11 ht18
 replace hK := Tr.trans hK ht18
 replace hB := Nat.le_trans hB ht18.ex.size
 replace hA := ht18.new
 replace hH : Hp w.heap.size A16 w15 (obC b14 [.string ByteArray.empty, .slice none 0 0] 51 :: []) := hH17
 refine V_as rfl rfl ?_
 refine V_to (fun _ _ => rfl) ?_
 refine C_seq ?_
 refine C_region ?_
 have h19 := El_know_Index_2 h11
 refine V_y (Y_fieldAddr Tryz.underlying25 rfl Tryz.sizeOf23 (by decide) rfl) rfl rfl rfl ?_
 obtain ⟨v20, h21, h22⟩ := El.list h19
 refine V_y (Y_load h21 Tryz.isAgg23 rfl) rfl rfl rfl ?_
 refine V_mv rfl rfl ?_
 obtain ⟨x25, hx25, hm⟩ := Option.bind_eq_some_iff.1 hm
 refine V_call Tryz.call61 rfl rfl rfl rfl (slices_BinarySearchFunc_Lknow_Term_know_Term_string_c (Dw := Dw) w15 hA x.terms v20 h22 word (fun y37 y38 => know_Index_term_1 y37 y38) 62 #[] #[] Tryz.call62 (fun w33 A34 ht35 h36 y26 v27 h28 y29 r30 h31 => (know_Index_term_1_c (Dw := Dw) w33 h36 y26 v27 h28 y29  h31).mono (fun _ _ h => ⟨h.1, h.2⟩)) hx25) ?_
 rintro _ w39 ⟨rfl, hk40⟩
 have ht41 := Kp.tr hk40 hA hB
 replace hH := Hp.kp hH hk40
 replace h11 := El.tr h11 ht41
 replace hK := Tr.trans hK ht41
 replace hB := Nat.le_trans hB ht41.ex.size
 replace hA := ht41.new
 refine V_mv rfl rfl ?_
 refine V_y (Y_extract rfl rfl) rfl rfl rfl ?_
 refine V_y (Y_extract rfl rfl) rfl rfl rfl ?_
 refine V_as rfl rfl ?_
 refine V_as rfl rfl ?_
 refine V_to (fun _ _ => rfl) ?_
 refine C_seq ?_
 refine C_seq ?_
 refine C_region ?_
 refine V_mv rfl rfl ?_
 refine V_y (Y_not rfl) rfl rfl rfl ?_
 refine V_to (fun _ _ => rfl) ?_
 refine C_cond rfl (fun hc42 => ?_) (fun hc42 => ?_)
 ·rw [if_pos hc42] at hm
  refine C_seq ?_
  refine C_region ?_
  refine V_y (Y_build Tryz.underlying51 Tryz.zeroValue51 (Tryz_places51 _ Tryz.underlying51) rfl (by with_unfolding_all rfl)) rfl rfl rfl ?_
  refine V_storeC (Dw := Dw) (off := 0) (ds := [.string ByteArray.empty, .slice none 0 0]) hH (i := 0) rfl Tryz.sizeOf51 rfl (Nat.le_of_ble_eq_true rfl) (by exact (List.forall_mem_cons.2 ⟨rfl, (List.forall_mem_cons.2 ⟨rfl, (fun _ h => nomatch h)⟩)⟩)) rfl hB hA rfl rfl ?_
  intro w43 hH44 ht45
  replace hK := Tr.trans hK ht45
  replace hH : Hp w.heap.size A16 w43 (obC b14 [.string ByteArray.empty, .slice none 0 0] 51 :: []) := hH44
  refine V_as rfl rfl ?_
  refine V_to (fun _ _ => rfl) ?_
  obtain rfl := Option.some.inj hm
  refine C_ret ?_
  try simp only [↓inBlock_ret, ↓then_ret]
  exact retQ rfl (Res.l2 Tryz.results28 (RL.cell rfl (loadVar_agg (Hp.part (off := 0) (n := 2) (ds := [.string ByteArray.empty, .slice none 0 0]) hH (i := 0) rfl rfl) Tryz.isAgg51 Tryz.sizeOf51)) (RL.tmp rfl)) ⟨.slice none 0 0, rfl, Sl.nil, hK.kp⟩
 ·rw [if_neg (nt hc42)] at hm
  refine C_skip_to (fun _ _ => rfl) ?_
  refine C_seq ?_
  refine C_region ?_
  have h46 := El_know_Index_2 h11
  refine V_y (Y_fieldAddr Tryz.underlying25 rfl Tryz.sizeOf23 (by decide) rfl) rfl rfl rfl ?_
  obtain ⟨v47, h48, h49⟩ := El.list h46
  refine V_y (Y_load h48 Tryz.isAgg23 rfl) rfl rfl rfl ?_
  refine V_mv rfl rfl ?_
  obtain ⟨x50, hx50, hm⟩ := Option.bind_eq_some_iff.1 hm
  refine V_indexAddr h49 hx50 Tryz.underlying23 Tryz.sizeOf51 rfl rfl rfl ?_
  intro b51 o52 h53
  obtain ⟨v54, h56, h55⟩ := El_know_Term h53
  refine V_y (Y_loadA h56 Tryz.isAgg51 Tryz.sizeOf51 rfl) rfl rfl rfl ?_
  have h62 : (v54).oneCell' = true := by obtain ⟨_, _, e, _⟩ := Sl.form h55; rw [e]; rfl
  refine V_storeC (Dw := Dw) (off := 0) (ds := [.string x50.word, v54]) hH (i := 0) rfl Tryz.sizeOf51 rfl (Nat.le_of_ble_eq_true rfl) (by exact (List.forall_mem_cons.2 ⟨rfl, (List.forall_mem_cons.2 ⟨h62, (fun _ h => nomatch h)⟩)⟩)) rfl hB hA rfl rfl ?_
  intro w57 hH58 ht59
  replace h55 := Sl.tr h55 ht59
  replace hK := Tr.trans hK ht59
  replace hH : Hp w.heap.size A16 w57 (obC b14 [.string x50.word, v54] 51 :: []) := hH58
  refine V_as rfl rfl ?_
  refine V_to (fun _ _ => rfl) ?_
  obtain rfl := Option.some.inj hm
  refine C_ret ?_
  try simp only [↓inBlock_ret, ↓then_ret]
  exact retQ rfl (Res.l2 Tryz.results28 (RL.cell rfl (loadVar_agg (Hp.part (off := 0) (n := 2) (ds := [.string x50.word, v54]) hH (i := 0) rfl rfl) Tryz.isAgg51 Tryz.sizeOf51)) (RL.tmp rfl)) ⟨v54, rfl, (Sl.out (Dw := Dw) h55 hA0 hK), hK.kp⟩

set_option maxRecDepth 4000 in
set_option maxHeartbeats 4000000 in
theorem know_Index_named_c (w : World) {A : Nat → Prop} {B : Nat} (hB : B ≤ w.heap.size) (hA : ∀ b, w.heap.size ≤ b → A b) (x : know_Index) (v_x0 : Value) (h_x0 : Sl A w v_x0 x.ids) (v_x1 : Value) (h_x1 : Sl A w v_x1 x.sizes) (v_x2 : Value) (h_x2 : Sl A w v_x2 x.terms) (p : know_Part) (v_p : Value) (h_p : Sl A w v_p p.words) {L : List Ob} (hH : Hp B A w (L)) {r : (List know_Term)} (hm : know_Index_named x p = some r) : Ret Tryz.prog 12 #[.agg #[v_x0, v_x1, v_x2], .agg #[.int .i64 p.kind, .bool p.not_, v_p]] w fun v w' => ∃ s0, ∃ A1 : Nat → Prop, v = s0 ∧ Hp B A1 w' (obS (α := know_Term) 51 s0 r :: L) ∧ Tr Dw B A w A1 w' := by
 unfold know_Index_named at hm
 refine enter Tryz.func12 rfl Tryz.ntmps12 rfl ?_
 have hK : Tr Dw B A w A w := Tr.refl (Dw := Dw) hA
 refine C_seq ?_
 refine C_region ?_
 refine V_box rfl rfl ?_
 intro b9 w10 h11
 have hk13 := h11.kp (Dw := Dw)
 have h12 : El (α := know_Index) A w10 b9 0 x := h11.el hA ⟨[v_x0], _, rfl, ⟨_, rfl, h_x0⟩, ⟨[v_x1], _, rfl, ⟨_, rfl, h_x1⟩, ⟨_, rfl, h_x2⟩⟩⟩
 have ht14 := Kp.tr hk13 hA hB
 replace hH := Hp.kp hH hk13
 replace h_p := Sl.tr h_p ht14
 replace hK := Tr.trans hK ht14
 replace hB := Nat.le_trans hB ht14.ex.size
 replace hA := ht14.new
 refine V_box rfl rfl ?_
 intro b15 w17 h18
 have hk20 := h18.kp (Dw := Dw)
 have h19 : El (α := know_Part) A w17 b15 0 p := h18.el hA ⟨[.int .i64 p.kind], _, rfl, rfl, ⟨[.bool p.not_], _, rfl, rfl, ⟨_, rfl, h_p⟩⟩⟩
 have ht21 := Kp.tr hk20 hA hB
 replace hH := Hp.kp hH hk20
 replace h12 := El.tr h12 ht21
 replace hK := Tr.trans hK ht21
 replace hB := Nat.le_trans hB ht21.ex.size
 replace hA := ht21.new
 refine V_as rfl rfl ?_
 refine V_to (fun _ _ => rfl) ?_
 refine C_seq ?_
 refine C_region ?_
 refine V_as rfl rfl ?_
 refine V_to (fun _ _ => rfl) ?_
 refine C_seq ?_
 refine C_seq ?_
 refine C_region ?_
 have h22 := El_know_Part_0 h19
 refine V_y (Y_fieldAddr Tryz.underlying44 rfl Tryz.sizeOf3 (by decide) rfl) rfl rfl rfl ?_
 refine V_y (Y_load (El.int h22) Tryz.isAgg3 rfl) rfl rfl rfl ?_
 refine V_y (Y_eql rfl rfl) rfl rfl rfl ?_
 refine V_to (fun _ _ => rfl) ?_
 refine C_cond rfl (fun hc23 => ?_) (fun hc23 => ?_)
 ·rw [if_pos hc23] at hm
  refine C_seq ?_
  refine C_seq ?_
  refine C_region ?_
  have h24 := El_know_Index_2 h12
  refine V_y (Y_fieldAddr Tryz.underlying25 rfl Tryz.sizeOf23 (by decide) rfl) rfl rfl rfl ?_
  obtain ⟨v25, h26, h27⟩ := El.list h24
  refine V_y (Y_load h26 Tryz.isAgg23 rfl) rfl rfl rfl ?_
  refine V_y (Y_lenSl h27 rfl Tryz.underlying23 rfl) rfl rfl rfl ?_
  refine V_mv rfl rfl ?_
  refine V_to (fun _ _ => rfl) ?_
  replace hH : Hp B A w17 (obS (α := know_Term) 51 (.slice none 0 0) ([] : (List know_Term)) :: L) := Hp.addNil (α := know_Term) (e := 51) hH
  have hn53 := Sl.le h27
  obtain ⟨o28, ho28, hm⟩ := Option.bind_eq_some_iff.1 hm
  refine C_cutG (ι := ((List know_Term) × Value × (Nat → Prop))) (fun ⟨s29, v36, A38⟩ => [(5, v36)]) (fun ⟨s29, v36, A38⟩ => fun w' => o28 = .fin s29 ∧ Hp B A38 w' (obS (α := know_Term) 51 v36 s29 :: L) ∧ Tr Dw B A w17 A38 w') ?_ ?_
  ·refine C_block ?_
   refine C_range ho28 (fun k31 s40 a w' => ∃ i : (Value × (Nat → Prop)), Has ⟨68, [], none⟩ a ([(3, .pointer (some ⟨b15, 0, none⟩)), (5, i.1), (18, v25), (19, .int .i64 (x.terms.length : Int)), (20, .int .i64 (k31 : Int))]) ∧ Hp B i.2 w' (obS (α := know_Term) 51 i.1 s40 :: L) ∧ Tr Dw B A w17 i.2 w') (fun a ha => ⟨(.slice none 0 0, A), ha.sub ⟨rfl, rfl, rfl, rfl, rfl, trivial⟩, ⟨hH, Tr.refl (Dw := Dw) hA⟩⟩) ?_
   rintro K k31 s40 a w41 ⟨⟨v42, A44⟩, ha129, hH45, hr30⟩ hle49 K52 h51
   refine C_of ?_ ha129
   replace h19 := El.tr h19 hr30
   replace h27 := Sl.tr h27 hr30
   replace hB := Nat.le_trans hB hr30.ex.size
   replace hA := hr30.new
   replace hH : Hp B A44 w41 (obS (α := know_Term) 51 v42 s40 :: L) := hH45
   refine C_seq (C_region (V_y (Y_lss rfl rfl) rfl rfl rfl (V_to (fun _ _ => rfl) ?_)))
   refine C_seq ?_
   refine C_cond rfl (fun hc54 => ?_) (fun hc54 => ?_)
   ·have hlt50 := lt_of_dec hc54
    obtain ⟨x46, h47, h48⟩ := K52 hlt50
    refine C_skip_to (fun _ _ => rfl) ?_
    refine C_seq ?_
    obtain ⟨s56, ho55, h47⟩ := Option.bind_eq_some_iff.1 h47
    refine C_cutG (ι := (Value × (Nat → Prop))) (fun ⟨v58, A63⟩ => [(3, .pointer (some ⟨b15, 0, none⟩)), (5, v58), (18, v25), (19, .int .i64 (x.terms.length : Int)), (20, .int .i64 (k31 : Int))]) (fun ⟨v58, A63⟩ => fun w' => Hp B A63 w' (obS (α := know_Term) 51 v58 s56 :: L) ∧ Tr Dw B A44 w41 A63 w') ?_ ?_
    ·have hr57 : Tr Dw B A44 w41 A44 w41 := Tr.refl (Dw := Dw) hA
     refine C_block ?_
     refine C_seq ?_
     refine C_region ?_
     obtain ⟨x65, hx65, ho55⟩ := Option.bind_eq_some_iff.1 ho55
     refine V_indexAddr h27 hx65 Tryz.underlying23 Tryz.sizeOf51 rfl rfl rfl ?_
     intro b66 o67 h68
     obtain ⟨v69, h71, h70⟩ := El_know_Term h68
     refine V_y (Y_loadA h71 Tryz.isAgg51 Tryz.sizeOf51 rfl) rfl rfl rfl ?_
     refine V_alloc Tryz.zeroValue51 rfl ?_
     intro b72 w73 h74
     have h79 : (v69).oneCell' = true := by obtain ⟨_, _, e, _⟩ := Sl.form h70; rw [e]; rfl
     refine V_storeNew h74 Tryz.sizeOf51 rfl rfl rfl rfl (by exact (List.forall_mem_cons.2 ⟨rfl, (List.forall_mem_cons.2 ⟨h79, (fun _ h => nomatch h)⟩)⟩)) ?_
     intro w75 h76
     have hk81 := h76.kp (Dw := Dw)
     have h80 : El (α := know_Term) A44 w75 b72 0 x65 := h76.el hA ⟨[.string x65.word], _, rfl, rfl, ⟨_, rfl, h70⟩⟩
     have ht82 := Kp.tr hk81 hA hB
     replace hH := Hp.kp hH hk81
     replace h19 := El.tr h19 ht82
     replace hr57 := Tr.trans hr57 ht82
     replace hB := Nat.le_trans hB ht82.ex.size
     replace hA := ht82.new
     refine V_to (fun _ _ => rfl) ?_
     refine C_seq ?_
     refine C_region_q (Dw := Dw) Tryz_mixed (by kernel_rfl) ?_
     have h83 := El_know_Term_0 h80
     refine VQ_y (fun w' hw' => Y_fieldAddr Tryz.underlying51 rfl Tryz.sizeOf9 (by decide) rfl) rfl rfl rfl ?_
     refine VQ_y (fun w' hw' => Y_load (El.str (El.kp (Dw := Dw) h83 hw')) Tryz.isAgg9 rfl) rfl rfl rfl ?_
     have h84 := El_know_Part_2 h19
     refine VQ_y (fun w' hw' => Y_fieldAddr Tryz.underlying44 rfl Tryz.sizeOf42 (by decide) rfl) rfl rfl rfl ?_
     obtain ⟨v85, h86, h87⟩ := El.list h84
     refine VQ_y (fun w' hw' => Y_load ((World.cell?_of_block (hw'.block _ (World.block_lt_of_cell? _ _ h86))).trans h86) Tryz.isAgg42 rfl) rfl rfl rfl ?_
     obtain ⟨x88, hx88, ho55⟩ := Option.bind_eq_some_iff.1 ho55
     refine VQ_indexAddr h87 hx88 Tryz.underlying42 Tryz.sizeOf9 rfl rfl rfl ?_
     intro b89 o90 h91
     refine VQ_y (fun w' hw' => Y_load (El.str (El.kp (Dw := Dw) h91 hw')) Tryz.isAgg9 rfl) rfl rfl rfl ?_
     obtain ⟨x92, hx92, ho55⟩ := Option.bind_eq_some_iff.1 ho55
     refine VQ_call (.bool x92) Tryz.call26 rfl rfl rfl rfl (fun w' hw' => (strings_HasPrefix_c w' x65.word x88 hx92).mono (fun _ _ h => ⟨h.1, h.2 ▸ hw'⟩)) ?_
     refine VQ_to (fun _ _ => rfl) (fun w93 hk94 => ?_)
     have ht95 := Kp.tr hk94 hA hB
     replace hH := Hp.kp hH hk94
     replace h80 := El.tr h80 ht95
     replace hr57 := Tr.trans hr57 ht95
     replace hB := Nat.le_trans hB ht95.ex.size
     replace hA := ht95.new
     obtain ⟨s97, ho96, ho55⟩ := Option.bind_eq_some_iff.1 ho55
     refine C_cutG (ι := (Value × (Nat → Prop))) (fun ⟨v99, A104⟩ => [(3, .pointer (some ⟨b15, 0, none⟩)), (5, v99), (18, v25), (19, .int .i64 (x.terms.length : Int)), (20, .int .i64 (k31 : Int))]) (fun ⟨v99, A104⟩ => fun w' => Hp B A104 w' (obS (α := know_Term) 51 v99 s97 :: L) ∧ Tr Dw B A44 w93 A104 w') ?_ ?_
     ·have hr98 : Tr Dw B A44 w93 A44 w93 := Tr.refl (Dw := Dw) hA
      refine C_cond rfl (fun hc106 => ?_) (fun hc106 => ?_)
      ·rw [if_pos hc106] at ho96
       refine C_region ?_
       refine V_mv rfl rfl ?_
       obtain ⟨v107, h109, h108⟩ := El_know_Term h80
       refine V_y (Y_loadA h109 Tryz.isAgg51 Tryz.sizeOf51 rfl) rfl rfl rfl ?_
       refine V_buildSlice (Dw := Dw) (cells := #[.string x65.word, v107]) (l := ([x65] : List know_Term)) (len := 1) Tryz.underlying23 Tryz.sizeOf51 Tryz.zeroValue51 rfl (by obtain ⟨a114, c115, e116, _⟩ := Sl.form h108; subst e116; kernel_rfl) (show (1 * 2 : Nat) ≠ 0 by decide) (show (1 * 2 : Nat) ≤ 2 ^ 24 by decide) hA ⟨[.string x65.word, v107], _, rfl, ⟨[.string x65.word], _, rfl, rfl, ⟨_, rfl, h108⟩⟩, rfl⟩ rfl rfl ?_
       intro v110 w111 hk113 h112
       have ht117 := Kp.tr hk113 hA hB
       replace hH := Hp.kp hH hk113
       replace hr98 := Tr.trans hr98 ht117
       replace hB := Nat.le_trans hB ht117.ex.size
       replace hA := ht117.new
       obtain ⟨x118, hx118, ho96⟩ := Option.bind_eq_some_iff.1 ho96
       refine V_appendH (Dw := Dw) (e := 51) (v := v42) (l := s40) (ti := Tryz.t51) (bytes := 40) (lim := 3518437208883) hH (i := 0) rfl h112 hx118 Tryz.underlying23 Tryz_info51 rfl rfl rfl rfl (by decide) (by decide) (by decide) hB hA rfl rfl rfl ?_
       intro v119 w120 A121 hH122 ht123
       replace hr98 := Tr.trans hr98 ht123
       replace hH : Hp B A121 w120 (obS (α := know_Term) 51 v119 x118 :: L) := hH122
       refine V_as rfl rfl ?_
       obtain rfl := Option.some.inj ho96
       refine V_end (fun a ha124 => ?_)
       exact ⟨(v119, A121), ha124.sub ⟨rfl, rfl, rfl, rfl, rfl, trivial⟩, ⟨hH, hr98⟩⟩
      ·rw [if_neg (nt hc106)] at ho96
       obtain rfl := Option.some.inj ho96
       refine C_skip (fun a ha125 => ?_)
       exact ⟨(v42, A44), ha125.sub ⟨rfl, rfl, rfl, rfl, rfl, trivial⟩, ⟨hH, hr98⟩⟩
     rintro ⟨v99, A104⟩ w101 ⟨hH105, hk102⟩ a ha103
     replace hr57 := Tr.trans hr57 hk102
     replace hA := hk102.new
     replace hH : Hp B A104 w101 (obS (α := know_Term) 51 v99 s97 :: L) := hH105
     obtain rfl := Option.some.inj ho55
     exact ⟨(v99, A104), ha103.sub ⟨rfl, rfl, rfl, rfl, rfl, trivial⟩, ⟨hH, hr57⟩⟩
    rintro ⟨v58, A63⟩ w60 ⟨hH64, hk61⟩ a ha62
    replace hr30 := Tr.trans hr30 hk61
    replace hA := hk61.new
    replace hH : Hp B A63 w60 (obS (α := know_Term) 51 v58 s56 :: L) := hH64
    refine C_at (n := ⟨68, [], none⟩) (fun _ _ => rfl) ?_ ha62
    refine C_region ?_
    refine V_y (Y_addI rfl rfl) rfl rfl rfl ?_
    refine V_mv rfl rfl ?_
    obtain rfl := Option.some.inj h47
    refine V_end (fun a ha127 => ?_)
    exact ⟨s56, hlt50, h48, ⟨(v58, A63), ha127.sub ⟨rfl, rfl, rfl, rfl, (congrArg (fun z => some (Value.int .i64 z)) (w64_succ hlt50 hn53)), trivial⟩, ⟨hH, hr30⟩⟩⟩
   ·refine C_exit (fun a ha128 => ?_)
    exact ⟨(s40, v42, A44), ha128.sub ⟨rfl, trivial⟩, ⟨(h51 (eq_of_dec hle49 hc54)).symm, hH, hr30⟩⟩
  rintro ⟨s29, v36, A38⟩ w33 ⟨rfl, hH39, hk34⟩ a ha35
  rw [Lp.andThen_fin] at hm
  replace hK := Tr.trans hK hk34
  replace hA := hk34.new
  replace hH : Hp B A38 w33 (obS (α := know_Term) 51 v36 s29 :: L) := hH39
  refine C_at (n := ⟨68, [], none⟩) (fun _ _ => rfl) ?_ ha35
  refine C_seq ?_
  refine C_region ?_
  refine V_mv rfl rfl ?_
  refine V_as rfl rfl ?_
  refine V_to (fun _ _ => rfl) ?_
  obtain rfl := Option.some.inj hm
  refine C_ret ?_
  try simp only [↓inBlock_ret, ↓then_ret]
  exact retQ rfl (Res.one Tryz.results12 rfl) ⟨v36, A38, rfl, hH, hK⟩
 ·rw [if_neg (nt hc23)] at hm
  refine C_skip_to (fun _ _ => rfl) ?_
  refine C_seq ?_
  refine C_region ?_
  refine V_makeMapS (Dw := Dw) (B := B) ByteArray Bool hH hB hA rfl ?_
  intro b130 w131 A132 hH133 ht134
  replace h12 := El.tr h12 ht134
  replace h19 := El.tr h19 ht134
  replace hK := Tr.trans hK ht134
  replace hB := Nat.le_trans hB ht134.ex.size
  replace hA := ht134.new
  replace hH : Hp B A132 w131 (obSM (κ := ByteArray) (α := Bool) b130 ([] : List (ByteArray × Bool)) :: L) := hH133
  refine V_as rfl rfl ?_
  refine V_to (fun _ _ => rfl) ?_
  refine C_seq ?_
  refine C_seq ?_
  refine C_region ?_
  have h135 := El_know_Part_2 h19
  refine V_y (Y_fieldAddr Tryz.underlying44 rfl Tryz.sizeOf42 (by decide) rfl) rfl rfl rfl ?_
  obtain ⟨v136, h137, h138⟩ := El.list h135
  refine V_y (Y_load h137 Tryz.isAgg42 rfl) rfl rfl rfl ?_
  refine V_y (Y_lenSl h138 rfl Tryz.underlying42 rfl) rfl rfl rfl ?_
  refine V_mv rfl rfl ?_
  refine V_to (fun _ _ => rfl) ?_
  replace hH : Hp B A132 w131 (obS (α := know_Term) 51 (.slice none 0 0) ([] : (List know_Term)) :: obSM (κ := ByteArray) (α := Bool) b130 ([] : List (ByteArray × Bool)) :: L) := Hp.addNil (α := know_Term) (e := 51) hH
  have hn163 := Sl.le h138
  obtain ⟨o139, ho139, hm⟩ := Option.bind_eq_some_iff.1 hm
  refine C_cutG (ι := (((List know_Term) × (List (ByteArray × Bool))) × Value × (Nat → Prop))) (fun ⟨s140, v146, A148⟩ => [(5, v146)]) (fun ⟨s140, v146, A148⟩ => fun w' => o139 = .fin s140 ∧ Hp B A148 w' (obS (α := know_Term) 51 v146 s140.1 :: obSM (κ := ByteArray) (α := Bool) b130 s140.2 :: L) ∧ Tr Dw B A132 w131 A148 w') ?_ ?_
  ·refine C_block ?_
   refine C_range ho139 (fun k142 s150 a w' => ∃ i : (Value × (Nat → Prop)), Has ⟨68, [], none⟩ a ([(2, .pointer (some ⟨b9, 0, none⟩)), (5, i.1), (8, .map (some b130)), (39, v136), (40, .int .i64 (p.words.length : Int)), (41, .int .i64 (k142 : Int))]) ∧ Hp B i.2 w' (obS (α := know_Term) 51 i.1 s150.1 :: obSM (κ := ByteArray) (α := Bool) b130 s150.2 :: L) ∧ Tr Dw B A132 w131 i.2 w') (fun a ha => ⟨(.slice none 0 0, A132), ha.sub ⟨rfl, rfl, rfl, rfl, rfl, rfl, trivial⟩, ⟨hH, Tr.refl (Dw := Dw) hA⟩⟩) ?_
   rintro K k142 s150 a w151 ⟨⟨v152, A154⟩, ha242, hH155, hr141⟩ hle159 K162 h161
   refine C_of ?_ ha242
   replace h12 := El.tr h12 hr141
   replace h138 := Sl.tr h138 hr141
   replace hB := Nat.le_trans hB hr141.ex.size
   replace hA := hr141.new
   replace hH : Hp B A154 w151 (obS (α := know_Term) 51 v152 s150.1 :: obSM (κ := ByteArray) (α := Bool) b130 s150.2 :: L) := hH155
   refine C_seq (C_region (V_y (Y_lss rfl rfl) rfl rfl rfl (V_to (fun _ _ => rfl) ?_)))
   refine C_seq ?_
   refine C_cond rfl (fun hc164 => ?_) (fun hc164 => ?_)
   ·have hlt160 := lt_of_dec hc164
    obtain ⟨x156, h157, h158⟩ := K162 hlt160
    refine C_skip_to (fun _ _ => rfl) ?_
    refine C_seq ?_
    obtain ⟨s166, ho165, h157⟩ := Option.bind_eq_some_iff.1 h157
    refine C_cutG (ι := (Value × (Nat → Prop))) (fun ⟨v168, A173⟩ => [(2, .pointer (some ⟨b9, 0, none⟩)), (5, v168), (8, .map (some b130)), (39, v136), (40, .int .i64 (p.words.length : Int)), (41, .int .i64 (k142 : Int))]) (fun ⟨v168, A173⟩ => fun w' => Hp B A173 w' (obS (α := know_Term) 51 v168 s166.1 :: obSM (κ := ByteArray) (α := Bool) b130 s166.2 :: L) ∧ Tr Dw B A154 w151 A173 w') ?_ ?_
    ·have hr167 : Tr Dw B A154 w151 A154 w151 := Tr.refl (Dw := Dw) hA
     refine C_block ?_
     refine C_seq ?_
     refine C_region ?_
     obtain ⟨x175, hx175, ho165⟩ := Option.bind_eq_some_iff.1 ho165
     refine V_indexAddr h138 hx175 Tryz.underlying42 Tryz.sizeOf9 rfl rfl rfl ?_
     intro b176 o177 h178
     refine V_y (Y_load (El.str h178) Tryz.isAgg9 rfl) rfl rfl rfl ?_
     refine V_as rfl rfl ?_
     refine V_to (fun _ _ => rfl) ?_
     refine C_seq ?_
     refine C_region ?_
     refine V_mv rfl rfl ?_
     obtain ⟨x179, hx179, ho165⟩ := Option.bind_eq_some_iff.1 ho165
     refine V_call Tryz.call27 rfl rfl rfl rfl (know_Stem_c w151 x175 hx179) ?_
     rintro _ _ ⟨rfl, rfl⟩
     refine V_as rfl rfl ?_
     refine V_to (fun _ _ => rfl) ?_
     refine C_seq ?_
     refine C_region ?_
     obtain ⟨v180, v182, v184, h186, h181, h183, h185⟩ := El_know_Index h12
     refine V_y (Y_loadA h186 Tryz.isAgg25 Tryz.sizeOf25 rfl) rfl rfl rfl ?_
     refine V_mv rfl rfl ?_
     obtain ⟨x187, hx187, ho165⟩ := Option.bind_eq_some_iff.1 ho165
     refine V_call Tryz.call28 rfl rfl rfl rfl (know_Index_term_c (Dw := Dw) w151 hA x v180 h181 v182 h183 v184 h185 x179 hx187) ?_
     rintro _ w190 ⟨v188, rfl, h189, hk191⟩
     have ht192 := Kp.tr hk191 hA hB
     replace hH := Hp.kp hH hk191
     replace hr167 := Tr.trans hr167 ht192
     replace hB := Nat.le_trans hB ht192.ex.size
     replace hA := ht192.new
     refine V_mv rfl rfl ?_
     refine V_y (Y_extract rfl rfl) rfl rfl rfl ?_
     refine V_y (Y_extract rfl rfl) rfl rfl rfl ?_
     refine V_alloc Tryz.zeroValue51 rfl ?_
     intro b193 w194 h195
     have h200 : (v188).oneCell' = true := by obtain ⟨_, _, e, _⟩ := Sl.form h189; rw [e]; rfl
     refine V_storeNew h195 Tryz.sizeOf51 rfl rfl rfl rfl (by exact (List.forall_mem_cons.2 ⟨rfl, (List.forall_mem_cons.2 ⟨h200, (fun _ h => nomatch h)⟩)⟩)) ?_
     intro w196 h197
     have hk202 := h197.kp (Dw := Dw)
     have h201 : El (α := know_Term) A154 w196 b193 0 x187.1 := h197.el hA ⟨[.string x187.1.word], _, rfl, rfl, ⟨_, rfl, h189⟩⟩
     have ht203 := Kp.tr hk202 hA hB
     replace hH := Hp.kp hH hk202
     replace hr167 := Tr.trans hr167 ht203
     replace hB := Nat.le_trans hB ht203.ex.size
     replace hA := ht203.new
     refine V_as rfl rfl ?_
     refine V_to (fun _ _ => rfl) ?_
     refine C_seq ?_
     refine C_region ?_
     refine V_mv rfl rfl ?_
     refine V_mv rfl rfl ?_
     refine V_cut 5 (fun _ : Unit => [(2, .pointer (some ⟨b9, 0, none⟩)), (5, v152), (8, .map (some b130)), (11, .string x179), (12, .pointer (some ⟨b193, 0, none⟩)), (39, v136), (40, .int .i64 (p.words.length : Int)), (41, .int .i64 (k142 : Int)), (59, .bool (x187.2 && (!((mapGet s150.2 x179).getD false))))]) (fun _ w' => w196 = w') ?_ ?_
     ·simp only [List.take, List.drop]
      rcases Bool.eq_false_or_eq_true (x187.2) with hc204 | hc204
      ·refine V_ge rfl rfl rfl hc204 ?_
       refine V_mv rfl rfl ?_
       refine V_ge rfl rfl rfl hc204 ?_
       refine V_mv rfl rfl ?_
       refine V_ge rfl rfl rfl hc204 ?_
       refine V_y (Y_lookupS (κ := ByteArray) (α := Bool) (z := false) (l := s150.2) hH (i := 1) rfl Tryz.underlying62 Tryz.underlying9 Tryz.zeroValue4 rfl rfl rfl) rfl rfl rfl ?_
       refine V_ge rfl rfl rfl hc204 ?_
       refine V_y (Y_not rfl) rfl rfl rfl ?_
       refine V_y (Y_pick_te rfl hc204 rfl) rfl rfl rfl ?_
       exact V_end fun a ha => ⟨(), ha.sub ⟨rfl, rfl, rfl, rfl, rfl, rfl, rfl, rfl, (by rw [hc204]; rfl), trivial⟩, rfl⟩
      ·refine V_gn rfl rfl rfl hc204 rfl rfl rfl ?_
       refine V_gn rfl rfl rfl hc204 rfl rfl rfl ?_
       refine V_gn rfl rfl rfl hc204 rfl rfl rfl ?_
       refine V_gn rfl rfl rfl hc204 rfl rfl rfl ?_
       refine V_y (Y_pick_fe rfl hc204 rfl) rfl rfl rfl ?_
       exact V_end fun a ha => ⟨(), ha.sub ⟨rfl, rfl, rfl, rfl, rfl, rfl, rfl, rfl, (by rw [hc204]; rfl), trivial⟩, rfl⟩
     simp only [List.take, List.drop]
     rintro _ _ rfl
     refine V_to (fun _ _ => rfl) ?_
     obtain ⟨s207, ho206, ho165⟩ := Option.bind_eq_some_iff.1 ho165
     refine C_cutG (ι := (Value × (Nat → Prop))) (fun ⟨v209, A214⟩ => [(2, .pointer (some ⟨b9, 0, none⟩)), (5, v209), (8, .map (some b130)), (39, v136), (40, .int .i64 (p.words.length : Int)), (41, .int .i64 (k142 : Int))]) (fun ⟨v209, A214⟩ => fun w' => Hp B A214 w' (obS (α := know_Term) 51 v209 s207.1 :: obSM (κ := ByteArray) (α := Bool) b130 s207.2 :: L) ∧ Tr Dw B A154 w196 A214 w') ?_ ?_
     ·have hr208 : Tr Dw B A154 w196 A154 w196 := Tr.refl (Dw := Dw) hA
      refine C_cond rfl (fun hc216 => ?_) (fun hc216 => ?_)
      ·rw [if_pos hc216] at ho206
       refine C_seq ?_
       refine C_region ?_
       refine V_mv rfl rfl ?_
       refine V_mv rfl rfl ?_
       refine V_mapUpdateS (Dw := Dw) (κ := ByteArray) (α := Bool) (l := s150.2) (c := true) hH (i := 1) rfl Tryz.underlying62 Tryz.underlying9 rfl rfl rfl hB hA ?_
       intro w217 hH218 ht219
       replace h201 := El.tr h201 ht219
       replace hr208 := Tr.trans hr208 ht219
       replace hB := Nat.le_trans hB ht219.ex.size
       replace hA := ht219.new
       replace hH : Hp B A154 w217 (obS (α := know_Term) 51 v152 s150.1 :: obSM (κ := ByteArray) (α := Bool) b130 (mapPut s150.2 x179 true) :: L) := hH218
       refine V_to (fun _ _ => rfl) ?_
       refine C_region ?_
       refine V_mv rfl rfl ?_
       obtain ⟨v220, h222, h221⟩ := El_know_Term h201
       refine V_y (Y_loadA h222 Tryz.isAgg51 Tryz.sizeOf51 rfl) rfl rfl rfl ?_
       refine V_buildSlice (Dw := Dw) (cells := #[.string x187.1.word, v220]) (l := ([x187.1] : List know_Term)) (len := 1) Tryz.underlying23 Tryz.sizeOf51 Tryz.zeroValue51 rfl (by obtain ⟨a227, c228, e229, _⟩ := Sl.form h221; subst e229; kernel_rfl) (show (1 * 2 : Nat) ≠ 0 by decide) (show (1 * 2 : Nat) ≤ 2 ^ 24 by decide) hA ⟨[.string x187.1.word, v220], _, rfl, ⟨[.string x187.1.word], _, rfl, rfl, ⟨_, rfl, h221⟩⟩, rfl⟩ rfl rfl ?_
       intro v223 w224 hk226 h225
       have ht230 := Kp.tr hk226 hA hB
       replace hH := Hp.kp hH hk226
       replace hr208 := Tr.trans hr208 ht230
       replace hB := Nat.le_trans hB ht230.ex.size
       replace hA := ht230.new
       obtain ⟨x231, hx231, ho206⟩ := Option.bind_eq_some_iff.1 ho206
       refine V_appendH (Dw := Dw) (e := 51) (v := v152) (l := s150.1) (ti := Tryz.t51) (bytes := 40) (lim := 3518437208883) hH (i := 0) rfl h225 hx231 Tryz.underlying23 Tryz_info51 rfl rfl rfl rfl (by decide) (by decide) (by decide) hB hA rfl rfl rfl ?_
       intro v232 w233 A234 hH235 ht236
       replace hr208 := Tr.trans hr208 ht236
       replace hH : Hp B A234 w233 (obS (α := know_Term) 51 v232 x231 :: obSM (κ := ByteArray) (α := Bool) b130 (mapPut s150.2 x179 true) :: L) := hH235
       refine V_as rfl rfl ?_
       obtain rfl := Option.some.inj ho206
       refine V_end (fun a ha237 => ?_)
       exact ⟨(v232, A234), ha237.sub ⟨rfl, rfl, rfl, rfl, rfl, rfl, trivial⟩, ⟨hH, hr208⟩⟩
      ·rw [if_neg (nt hc216)] at ho206
       obtain rfl := Option.some.inj ho206
       refine C_skip (fun a ha238 => ?_)
       exact ⟨(v152, A154), ha238.sub ⟨rfl, rfl, rfl, rfl, rfl, rfl, trivial⟩, ⟨hH, hr208⟩⟩
     rintro ⟨v209, A214⟩ w211 ⟨hH215, hk212⟩ a ha213
     replace hr167 := Tr.trans hr167 hk212
     replace hA := hk212.new
     replace hH : Hp B A214 w211 (obS (α := know_Term) 51 v209 s207.1 :: obSM (κ := ByteArray) (α := Bool) b130 s207.2 :: L) := hH215
     obtain rfl := Option.some.inj ho165
     exact ⟨(v209, A214), ha213.sub ⟨rfl, rfl, rfl, rfl, rfl, rfl, trivial⟩, ⟨hH, hr167⟩⟩
    rintro ⟨v168, A173⟩ w170 ⟨hH174, hk171⟩ a ha172
    replace hr141 := Tr.trans hr141 hk171
    replace hA := hk171.new
    replace hH : Hp B A173 w170 (obS (α := know_Term) 51 v168 s166.1 :: obSM (κ := ByteArray) (α := Bool) b130 s166.2 :: L) := hH174
    refine C_at (n := ⟨68, [], none⟩) (fun _ _ => rfl) ?_ ha172
    refine C_region ?_
    refine V_y (Y_addI rfl rfl) rfl rfl rfl ?_
    refine V_mv rfl rfl ?_
    obtain rfl := Option.some.inj h157
    refine V_end (fun a ha240 => ?_)
    exact ⟨(s166.1, s166.2), hlt160, h158, ⟨(v168, A173), ha240.sub ⟨rfl, rfl, rfl, rfl, rfl, (congrArg (fun z => some (Value.int .i64 z)) (w64_succ hlt160 hn163)), trivial⟩, ⟨hH, hr141⟩⟩⟩
   ·refine C_exit (fun a ha241 => ?_)
    exact ⟨((s150.1, s150.2), v152, A154), ha241.sub ⟨rfl, trivial⟩, ⟨(h161 (eq_of_dec hle159 hc164)).symm, hH, hr141⟩⟩
  rintro ⟨s140, v146, A148⟩ w143 ⟨rfl, hH149, hk144⟩ a ha145
  rw [Lp.andThen_fin] at hm
  replace hK := Tr.trans hK hk144
  replace hA := hk144.new
  replace hH : Hp B A148 w143 (obS (α := know_Term) 51 v146 s140.1 :: obSM (κ := ByteArray) (α := Bool) b130 s140.2 :: L) := hH149
  refine C_at (n := ⟨68, [], none⟩) (fun _ _ => rfl) ?_ ha145
  refine C_seq ?_
  refine C_region ?_
  refine V_mv rfl rfl ?_
  refine V_as rfl rfl ?_
  refine V_to (fun _ _ => rfl) ?_
  obtain rfl := Option.some.inj hm
  replace hH : Hp B A148 w143 (obS (α := know_Term) 51 v146 s140.1 :: L) := Hp.drop hH (i := 1) rfl
  refine C_ret ?_
  try simp only [↓inBlock_ret, ↓then_ret]
  exact retQ rfl (Res.one Tryz.results12 rfl) ⟨v146, A148, rfl, hH, hK⟩

set_option maxRecDepth 4000 in
set_option maxHeartbeats 4000000 in
theorem slices_BinarySearchFunc_Lknow_Posting_know_Posting_int_c (w : World) {A : Nat → Prop} (hA : ∀ b, w.heap.size ≤ b → A b) (x : (List know_Posting)) (v_x : Value) (h_x : Sl A w v_x x) (target : Int) (cmp : know_Posting → Int → Option Int) (cmp_f : FuncId) (cmp_a cmp_c : Array Value) (cmp_call : ∀ (args : Array Value) (w : World), (callFunc cmp_f args).run Tryz.prog w = .ok (.enter cmp_f args) w) (cmp_spec : ∀ (w1 : World) (A1 : Nat → Prop), Tr Dw w.heap.size A w A1 w1 → (∀ b, w1.heap.size ≤ b → A1 b) → ∀ (y0 : know_Posting) (v1 : Value) (h2 : Sl A1 w1 v1 y0.title) (v3 : Value) (h4 : Sl A1 w1 v3 y0.body) (y1 : Int) (r : Int), cmp y0 y1 = some r → Ret Tryz.prog cmp_f (cmp_a ++ #[.agg #[.int .i64 y0.id_, v1, v3], .int .i64 y1] ++ cmp_c) w1 fun v w' => v = .int .i64 r ∧ Kp Dw w1 w') {r : (Int × Bool)} (hm : slices_BinarySearchFunc_Lknow_Posting_know_Posting_int x target cmp = some r) : Ret Tryz.prog 68 #[v_x, .int .i64 target, .func (.func cmp_f) cmp_a cmp_c] w fun v w' => v = .tuple #[.int .i64 r.1, .bool r.2] ∧ Kp Dw w w' := by
 unfold slices_BinarySearchFunc_Lknow_Posting_know_Posting_int at hm
 refine enter Tryz.func68 rfl Tryz.ntmps68 rfl ?_
 have hA0 := hA
 have hB := Nat.le_refl w.heap.size
 have hK : Tr Dw w.heap.size A w A w := Tr.refl (Dw := Dw) hA
 have hH : Hp w.heap.size A w [] := Hp.nil
 refine C_seq ?_
 refine C_region ?_
 refine V_as rfl rfl ?_
 refine V_as rfl rfl ?_
 refine V_to (fun _ _ => rfl) ?_
 refine C_seq ?_
 refine C_region ?_
 refine V_mv rfl rfl ?_
 refine V_y (Y_lenSl h_x rfl Tryz.underlying49 rfl) rfl rfl rfl ?_
 refine V_as rfl rfl ?_
 refine V_to (fun _ _ => rfl) ?_
 refine C_seq ?_
 refine C_region ?_
 refine V_mv rfl rfl ?_
 refine V_as rfl rfl ?_
 refine V_as rfl rfl ?_
 refine V_to (fun _ _ => rfl) ?_
 refine C_seq ?_
 obtain ⟨o3, ho3, hm⟩ := Option.bind_eq_some_iff.1 hm
 refine C_cutG (ι := ((Int × Int) × (Nat → Prop))) (fun ⟨s4, A10⟩ => [(0, v_x), (1, .int .i64 target), (2, .func (.func cmp_f) cmp_a cmp_c), (8, .int .i64 (x.length : Int)), (9, .int .i64 s4.1)]) (fun ⟨s4, A10⟩ => fun w' => o3 = .fin s4 ∧ Hp w.heap.size A10 w' ([]) ∧ Tr Dw w.heap.size A w A10 w') ?_ ?_
 ·refine C_block ?_
  refine C_while ho3 (fun s12 a w' => ∃ i : (Nat → Prop), Has ⟨49, [], none⟩ a ([(0, v_x), (1, .int .i64 target), (2, .func (.func cmp_f) cmp_a cmp_c), (8, .int .i64 (x.length : Int)), (9, .int .i64 s12.1), (10, .int .i64 s12.2)]) ∧ Hp w.heap.size i w' ([]) ∧ Tr Dw w.heap.size A w i w') (fun a ha => ⟨A, ha.sub ⟨rfl, rfl, rfl, rfl, rfl, rfl, trivial⟩, ⟨hH, Tr.refl (Dw := Dw) hA⟩⟩) ?_
  rintro K s12 a w13 ⟨A14, ha58, hH15, hr5⟩ K22
  refine C_of ?_ ha58
  replace h_x := Sl.tr h_x hr5
  replace hK := Tr.trans hK hr5
  replace hB := Nat.le_trans hB hr5.ex.size
  replace hA := hr5.new
  replace hH : Hp w.heap.size A14 w13 ([]) := hH15
  obtain ⟨x16, h17, h18⟩ := K22
  refine C_seq ?_
  refine C_seq ?_
  refine C_region ?_
  refine V_mv rfl rfl ?_
  refine V_mv rfl rfl ?_
  refine V_y (Y_lss rfl rfl) rfl rfl rfl ?_
  refine V_to (fun _ _ => rfl) ?_
  refine C_cond rfl (fun hc23 => ?_) (fun hc23 => ?_)
  ·rw [if_pos hc23] at h17
   refine C_skip_to (fun _ _ => rfl) ?_
   obtain ⟨s25, ho24, h17⟩ := Option.bind_eq_some_iff.1 h17
   refine C_cutG (ι := (Nat → Prop)) (fun (A30 : (Nat → Prop)) => [(0, v_x), (1, .int .i64 target), (2, .func (.func cmp_f) cmp_a cmp_c), (8, .int .i64 (x.length : Int)), (9, .int .i64 s25.1), (10, .int .i64 s25.2)]) (fun (A30 : (Nat → Prop)) => fun w' => Hp w.heap.size A30 w' ([]) ∧ Tr Dw w.heap.size A14 w13 A30 w') ?_ ?_
   ·have hr26 : Tr Dw w.heap.size A14 w13 A14 w13 := Tr.refl (Dw := Dw) hA
    refine C_block ?_
    refine C_seq ?_
    refine C_region ?_
    refine V_mv rfl rfl ?_
    refine V_mv rfl rfl ?_
    refine V_y (Y_addI rfl rfl) rfl rfl rfl ?_
    refine V_y (Y_convI Tryz.underlying3 Tryz.underlying74 rfl) rfl rfl rfl ?_
    obtain ⟨x32, hx32, ho24⟩ := Option.bind_eq_some_iff.1 ho24
    refine V_y (Y_shr hx32 rfl rfl) rfl rfl rfl ?_
    refine V_y (Y_convI Tryz.underlying74 Tryz.underlying3 rfl) rfl rfl rfl ?_
    refine V_as rfl rfl ?_
    refine V_to (fun _ _ => rfl) ?_
    refine C_seq ?_
    refine C_region ?_
    refine V_mv rfl rfl ?_
    refine V_mv rfl rfl ?_
    refine V_mv rfl rfl ?_
    obtain ⟨x33, hx33, ho24⟩ := Option.bind_eq_some_iff.1 ho24
    refine V_indexAddr h_x hx33 Tryz.underlying49 Tryz.sizeOf69 rfl rfl rfl ?_
    intro b34 o35 h36
    obtain ⟨v37, v39, h41, h38, h40⟩ := El_know_Posting h36
    refine V_y (Y_loadA h41 Tryz.isAgg69 Tryz.sizeOf69 rfl) rfl rfl rfl ?_
    refine V_mv rfl rfl ?_
    obtain ⟨x42, hx42, ho24⟩ := Option.bind_eq_some_iff.1 ho24
    refine V_call cmp_call rfl rfl rfl rfl (cmp_spec w13 _ hK hA x33 v37 h38 v39 h40 target _ hx42) ?_
    rintro _ w43 ⟨rfl, hk44⟩
    have ht45 := Kp.tr hk44 hA hB
    replace hH := Hp.kp hH hk44
    replace hr26 := Tr.trans hr26 ht45
    refine V_y (Y_lss rfl rfl) rfl rfl rfl ?_
    refine V_to (fun _ _ => rfl) ?_
    obtain ⟨s47, ho46, ho24⟩ := Option.bind_eq_some_iff.1 ho24
    refine C_cutG (ι := Unit) (fun (_ : Unit) => [(0, v_x), (1, .int .i64 target), (2, .func (.func cmp_f) cmp_a cmp_c), (8, .int .i64 (x.length : Int)), (9, .int .i64 s47.1), (10, .int .i64 s47.2)]) (fun (_ : Unit) => fun w' => w43 = w') ?_ ?_
    ·refine C_cond rfl (fun hc52 => ?_) (fun hc52 => ?_)
     ·rw [if_pos hc52] at ho46
      refine C_region ?_
      refine V_mv rfl rfl ?_
      refine V_y (Y_addI rfl rfl) rfl rfl rfl ?_
      refine V_as rfl rfl ?_
      obtain rfl := Option.some.inj ho46
      refine V_end (fun a ha53 => ?_)
      exact ⟨(), ha53.sub ⟨rfl, rfl, rfl, rfl, rfl, rfl, trivial⟩, rfl⟩
     ·rw [if_neg (nt hc52)] at ho46
      refine C_region ?_
      refine V_mv rfl rfl ?_
      refine V_as rfl rfl ?_
      obtain rfl := Option.some.inj ho46
      refine V_end (fun a ha54 => ?_)
      exact ⟨(), ha54.sub ⟨rfl, rfl, rfl, rfl, rfl, rfl, trivial⟩, rfl⟩
    rintro _ _ rfl a ha51
    obtain rfl := Option.some.inj ho24
    exact ⟨A14, ha51.sub ⟨rfl, rfl, rfl, rfl, rfl, rfl, trivial⟩, ⟨hH, hr26⟩⟩
   rintro A30 w27 ⟨hH31, hk28⟩ a ha29
   replace hr5 := Tr.trans hr5 hk28
   replace hA := hk28.new
   replace hH : Hp w.heap.size A30 w27 ([]) := hH31
   obtain rfl := Option.some.inj h17
   exact ⟨(s25.1, s25.2), h18, ⟨A30, ha29.sub ⟨rfl, rfl, rfl, rfl, rfl, rfl, trivial⟩, ⟨hH, hr5⟩⟩⟩
  ·rw [if_neg (nt hc23)] at h17
   obtain rfl := Option.some.inj h17
   refine C_exit (fun a ha57 => ?_)
   exact ⟨((s12.1, s12.2), A14), ha57.sub ⟨rfl, rfl, rfl, rfl, rfl, trivial⟩, ⟨h18.symm, hH, hr5⟩⟩
 rintro ⟨s4, A10⟩ w7 ⟨rfl, hH11, hk8⟩ a ha9
 rw [Lp.andThen_fin] at hm
 replace h_x := Sl.tr h_x hk8
 replace hK := Tr.trans hK hk8
 replace hB := Nat.le_trans hB hk8.ex.size
 replace hA := hk8.new
 replace hH : Hp w.heap.size A10 w7 ([]) := hH11
 refine C_at (n := ⟨49, [], none⟩) (fun _ _ => rfl) ?_ ha9
 refine C_seq ?_
 obtain ⟨s60, ho59, hm⟩ := Option.bind_eq_some_iff.1 hm
 refine C_cutG (ι := (Nat → Prop)) (fun (A65 : (Nat → Prop)) => [(6, .int .i64 s60.1), (7, .bool s60.2)]) (fun (A65 : (Nat → Prop)) => fun w' => Hp w.heap.size A65 w' ([]) ∧ Tr Dw w.heap.size A10 w7 A65 w') ?_ ?_
 ·have hr61 : Tr Dw w.heap.size A10 w7 A10 w7 := Tr.refl (Dw := Dw) hA
  refine C_region ?_
  refine V_mv rfl rfl ?_
  refine V_mv rfl rfl ?_
  refine V_mv rfl rfl ?_
  refine V_y (Y_lss rfl rfl) rfl rfl rfl ?_
  refine V_mv rfl rfl ?_
  rcases Bool.eq_false_or_eq_true (decide (s4.1 < (x.length : Int))) with hc67 | hc67
  ·rw [if_pos hc67] at ho59
   refine V_ge rfl rfl rfl hc67 ?_
   refine V_mv rfl rfl ?_
   refine V_ge rfl rfl rfl hc67 ?_
   refine V_mv rfl rfl ?_
   refine V_ge rfl rfl rfl hc67 ?_
   refine V_mv rfl rfl ?_
   refine V_ge rfl rfl rfl hc67 ?_
   obtain ⟨x68, hx68, ho59⟩ := Option.bind_eq_some_iff.1 ho59
   refine V_indexAddr h_x hx68 Tryz.underlying49 Tryz.sizeOf69 rfl rfl rfl ?_
   intro b69 o70 h71
   refine V_ge rfl rfl rfl hc67 ?_
   obtain ⟨v72, v74, h76, h73, h75⟩ := El_know_Posting h71
   refine V_y (Y_loadA h76 Tryz.isAgg69 Tryz.sizeOf69 rfl) rfl rfl rfl ?_
   refine V_ge rfl rfl rfl hc67 ?_
   refine V_mv rfl rfl ?_
   refine V_ge rfl rfl rfl hc67 ?_
   obtain ⟨x77, hx77, ho59⟩ := Option.bind_eq_some_iff.1 ho59
   refine V_call cmp_call rfl rfl rfl rfl (cmp_spec w7 _ hK hA x68 v72 h73 v74 h75 target _ hx77) ?_
   rintro _ w78 ⟨rfl, hk79⟩
   have ht80 := Kp.tr hk79 hA hB
   replace hH := Hp.kp hH hk79
   replace hr61 := Tr.trans hr61 ht80
   refine V_ge rfl rfl rfl hc67 ?_
   refine V_y (Y_eql rfl rfl) rfl rfl rfl ?_
   refine V_y (Y_pick_te rfl hc67 rfl) rfl rfl rfl ?_
   refine V_as rfl rfl ?_
   refine V_as rfl rfl ?_
   obtain rfl := Option.some.inj ho59
   refine V_end (fun a ha81 => ?_)
   exact ⟨A10, ha81.sub ⟨rfl, rfl, trivial⟩, ⟨hH, hr61⟩⟩
  ·rw [if_neg (nt hc67)] at ho59
   refine V_gn rfl rfl rfl hc67 rfl rfl rfl ?_
   refine V_gn rfl rfl rfl hc67 rfl rfl rfl ?_
   refine V_gn rfl rfl rfl hc67 rfl rfl rfl ?_
   refine V_gn rfl rfl rfl hc67 rfl rfl rfl ?_
   refine V_gn rfl rfl rfl hc67 rfl rfl rfl ?_
   refine V_gn rfl rfl rfl hc67 rfl rfl rfl ?_
   refine V_gn rfl rfl rfl hc67 rfl rfl rfl ?_
   refine V_gn rfl rfl rfl hc67 rfl rfl rfl ?_
   refine V_y (Y_pick_fe rfl hc67 rfl) rfl rfl rfl ?_
   refine V_as rfl rfl ?_
   refine V_as rfl rfl ?_
   obtain rfl := Option.some.inj ho59
   refine V_end (fun a ha82 => ?_)
   exact ⟨A10, ha82.sub ⟨rfl, rfl, trivial⟩, ⟨hH, hr61⟩⟩
 rintro A65 w62 ⟨hH66, hk63⟩ a ha64
 replace hK := Tr.trans hK hk63
 replace hA := hk63.new
 replace hH : Hp w.heap.size A65 w62 ([]) := hH66
 refine C_at (n := ⟨49, [], none⟩) (fun _ _ => rfl) ?_ ha64
 obtain rfl := Option.some.inj hm
 refine C_ret ?_
 try simp only [↓inBlock_ret, ↓then_ret]
 exact retQ rfl (Res.two Tryz.results68 rfl rfl) ⟨rfl, hK.kp⟩

set_option maxRecDepth 4000 in
set_option maxHeartbeats 4000000 in
theorem cmp_Compare_int_c (w : World) (x : Int) (y : Int) : Ret Tryz.prog 37 #[.int .i64 x, .int .i64 y] w fun v w' => v = .int .i64 (cmp_Compare_int x y) ∧ w = w' := by
 generalize hm : cmp_Compare_int x y = r
 unfold cmp_Compare_int at hm
 refine enter Tryz.func37 rfl Tryz.ntmps37 rfl ?_
 refine C_seq ?_
 refine C_region ?_
 refine V_as rfl rfl ?_
 refine V_to (fun _ _ => rfl) ?_
 refine C_seq ?_
 refine C_region ?_
 refine V_mv rfl rfl ?_
 refine V_call Tryz.call73 rfl rfl rfl rfl (cmp_isNaN_int_c w x) ?_
 rintro _ _ ⟨rfl, rfl⟩
 refine V_as rfl rfl ?_
 refine V_to (fun _ _ => rfl) ?_
 refine C_seq ?_
 refine C_region ?_
 refine V_mv rfl rfl ?_
 refine V_call Tryz.call73 rfl rfl rfl rfl (cmp_isNaN_int_c w y) ?_
 rintro _ _ ⟨rfl, rfl⟩
 refine V_as rfl rfl ?_
 refine V_to (fun _ _ => rfl) ?_
 refine C_seq ?_
 refine C_seq ?_
 refine C_region ?_
 refine V_mv rfl rfl ?_
 refine V_to (fun _ _ => rfl) ?_
 refine C_cond rfl (fun hc1 => ?_) (fun hc1 => ?_)
 ·rw [if_pos hc1] at hm
  refine C_seq ?_
  refine C_seq ?_
  refine C_region ?_
  refine V_mv rfl rfl ?_
  refine V_to (fun _ _ => rfl) ?_
  refine C_cond rfl (fun hc2 => ?_) (fun hc2 => ?_)
  ·rw [if_pos hc2] at hm
   refine C_seq ?_
   refine C_region ?_
   refine V_as rfl rfl ?_
   refine V_to (fun _ _ => rfl) ?_
   obtain rfl := hm
   refine C_ret ?_
   try simp only [↓inBlock_ret, ↓then_ret]
   exact retQ rfl (Res.one Tryz.results37 rfl) ⟨rfl, rfl⟩
  ·rw [if_neg (nt hc2)] at hm
   refine C_skip_to (fun _ _ => rfl) ?_
   refine C_seq ?_
   refine C_region ?_
   refine V_as rfl rfl ?_
   refine V_to (fun _ _ => rfl) ?_
   obtain rfl := hm
   refine C_ret ?_
   try simp only [↓inBlock_ret, ↓then_ret]
   exact retQ rfl (Res.one Tryz.results37 rfl) ⟨rfl, rfl⟩
 ·rw [if_neg (nt hc1)] at hm
  refine C_skip_to (fun _ _ => rfl) ?_
  refine C_seq ?_
  refine C_seq ?_
  refine C_region ?_
  refine V_mv rfl rfl ?_
  refine V_to (fun _ _ => rfl) ?_
  refine C_cond rfl (fun hc3 => ?_) (fun hc3 => ?_)
  ·rw [if_pos hc3] at hm
   refine C_seq ?_
   refine C_region ?_
   refine V_as rfl rfl ?_
   refine V_to (fun _ _ => rfl) ?_
   obtain rfl := hm
   refine C_ret ?_
   try simp only [↓inBlock_ret, ↓then_ret]
   exact retQ rfl (Res.one Tryz.results37 rfl) ⟨rfl, rfl⟩
  ·rw [if_neg (nt hc3)] at hm
   refine C_skip_to (fun _ _ => rfl) ?_
   refine C_seq ?_
   refine C_seq ?_
   refine C_region ?_
   refine V_mv rfl rfl ?_
   refine V_mv rfl rfl ?_
   refine V_y (Y_lss rfl rfl) rfl rfl rfl ?_
   refine V_to (fun _ _ => rfl) ?_
   refine C_cond rfl (fun hc4 => ?_) (fun hc4 => ?_)
   ·rw [if_pos hc4] at hm
    refine C_seq ?_
    refine C_region ?_
    refine V_as rfl rfl ?_
    refine V_to (fun _ _ => rfl) ?_
    obtain rfl := hm
    refine C_ret ?_
    try simp only [↓inBlock_ret, ↓then_ret]
    exact retQ rfl (Res.one Tryz.results37 rfl) ⟨rfl, rfl⟩
   ·rw [if_neg (nt hc4)] at hm
    refine C_skip_to (fun _ _ => rfl) ?_
    refine C_seq ?_
    refine C_seq ?_
    refine C_region ?_
    refine V_mv rfl rfl ?_
    refine V_mv rfl rfl ?_
    refine V_y (Y_gtr rfl rfl) rfl rfl rfl ?_
    refine V_to (fun _ _ => rfl) ?_
    refine C_cond rfl (fun hc5 => ?_) (fun hc5 => ?_)
    ·rw [if_pos hc5] at hm
     refine C_seq ?_
     refine C_region ?_
     refine V_as rfl rfl ?_
     refine V_to (fun _ _ => rfl) ?_
     obtain rfl := hm
     refine C_ret ?_
     try simp only [↓inBlock_ret, ↓then_ret]
     exact retQ rfl (Res.one Tryz.results37 rfl) ⟨rfl, rfl⟩
    ·rw [if_neg (nt hc5)] at hm
     refine C_skip_to (fun _ _ => rfl) ?_
     refine C_seq ?_
     refine C_region ?_
     refine V_as rfl rfl ?_
     refine V_to (fun _ _ => rfl) ?_
     obtain rfl := hm
     refine C_ret ?_
     try simp only [↓inBlock_ret, ↓then_ret]
     exact retQ rfl (Res.one Tryz.results37 rfl) ⟨rfl, rfl⟩

set_option maxRecDepth 4000 in
set_option maxHeartbeats 4000000 in
theorem know_Term_posting_1_c (w : World) {A : Nat → Prop} (hA : ∀ b, w.heap.size ≤ b → A b) (p : know_Posting) (v_p0 : Value) (h_p0 : Sl A w v_p0 p.title) (v_p1 : Value) (h_p1 : Sl A w v_p1 p.body) (id_ : Int) {r : Int} (hm : know_Term_posting_1 p id_ = some r) : Ret Tryz.prog 69 #[.agg #[.int .i64 p.id_, v_p0, v_p1], .int .i64 id_] w fun v w' => v = .int .i64 r ∧ Kp Dw w w' := by
 unfold know_Term_posting_1 at hm
 refine enter Tryz.func69 rfl Tryz.ntmps69 rfl ?_
 have hA0 := hA
 have hB := Nat.le_refl w.heap.size
 have hK : Tr Dw w.heap.size A w A w := Tr.refl (Dw := Dw) hA
 have hH : Hp w.heap.size A w [] := Hp.nil
 refine C_seq ?_
 refine C_region ?_
 refine V_box rfl rfl ?_
 intro b5 w6 h7
 have hk9 := h7.kp (Dw := Dw)
 have h8 : El (α := know_Posting) A w6 b5 0 p := h7.el hA ⟨[.int .i64 p.id_], _, rfl, rfl, ⟨[v_p0], _, rfl, ⟨_, rfl, h_p0⟩, ⟨_, rfl, h_p1⟩⟩⟩
 have ht10 := Kp.tr hk9 hA hB
 replace hK := Tr.trans hK ht10
 refine V_as rfl rfl ?_
 refine V_to (fun _ _ => rfl) ?_
 refine C_seq ?_
 refine C_region ?_
 have h11 := El_know_Posting_0 h8
 refine V_y (Y_fieldAddr Tryz.underlying69 rfl Tryz.sizeOf3 (by decide) rfl) rfl rfl rfl ?_
 refine V_y (Y_load (El.int h11) Tryz.isAgg3 rfl) rfl rfl rfl ?_
 refine V_mv rfl rfl ?_
 refine V_call Tryz.call37 rfl rfl rfl rfl (cmp_Compare_int_c w6 p.id_ id_) ?_
 rintro _ _ ⟨rfl, rfl⟩
 refine V_as rfl rfl ?_
 refine V_to (fun _ _ => rfl) ?_
 obtain rfl := Option.some.inj hm
 refine C_ret ?_
 try simp only [↓inBlock_ret, ↓then_ret]
 exact retQ rfl (Res.one Tryz.results69 rfl) ⟨rfl, hK.kp⟩

set_option maxRecDepth 4000 in
set_option maxHeartbeats 4000000 in
theorem know_Term_posting_c (w : World) {A : Nat → Prop} (hA : ∀ b, w.heap.size ≤ b → A b) (t : know_Term) (v_t : Value) (h_t : Sl A w v_t t.list_) (id_ : Int) {r : (know_Posting × Bool)} (hm : know_Term_posting t id_ = some r) : Ret Tryz.prog 32 #[.agg #[.string t.word, v_t], .int .i64 id_] w fun v w' => ∃ s0 s1, v = .tuple #[.agg #[.int .i64 r.1.id_, s0, s1], .bool r.2] ∧ Sl A w' s0 r.1.title ∧ Sl A w' s1 r.1.body ∧ Kp Dw w w' := by
 unfold know_Term_posting at hm
 refine enter Tryz.func32 rfl Tryz.ntmps32 rfl ?_
 have hA0 := hA
 have hB := Nat.le_refl w.heap.size
 have hK : Tr Dw w.heap.size A w A w := Tr.refl (Dw := Dw) hA
 have hH : Hp w.heap.size A w [] := Hp.nil
 refine C_seq ?_
 refine C_region ?_
 refine V_box rfl rfl ?_
 intro b3 w4 h5
 have hk7 := h5.kp (Dw := Dw)
 have h6 : El (α := know_Term) A w4 b3 0 t := h5.el hA ⟨[.string t.word], _, rfl, rfl, ⟨_, rfl, h_t⟩⟩
 have ht8 := Kp.tr hk7 hA hB
 replace hH := Hp.kp hH hk7
 replace hK := Tr.trans hK ht8
 replace hB := Nat.le_trans hB ht8.ex.size
 replace hA := ht8.new
 refine V_allocH (Dw := Dw) (B := w.heap.size) hH Tryz.zeroValue69 hB hA rfl ?_
 intro b9 w10 A11 hH12 ht13
 replace h6 := El.tr h6 ht13
 replace hK := Tr.trans hK ht13
 replace hB := Nat.le_trans hB ht13.ex.size
 replace hA := ht13.new
 replace hH : Hp w.heap.size A11 w10 (obC b9 [.int .i64 0, .slice none 0 0, .slice none 0 0] 69 :: []) := hH12
 refine V_as rfl rfl ?_
 refine V_to (fun _ _ => rfl) ?_
 refine C_seq ?_
 refine C_region ?_
 have h14 := El_know_Term_1 h6
 refine V_y (Y_fieldAddr Tryz.underlying51 rfl Tryz.sizeOf49 (by decide) rfl) rfl rfl rfl ?_
 obtain ⟨v15, h16, h17⟩ := El.list h14
 refine V_y (Y_load h16 Tryz.isAgg49 rfl) rfl rfl rfl ?_
 refine V_mv rfl rfl ?_
 obtain ⟨x20, hx20, hm⟩ := Option.bind_eq_some_iff.1 hm
 refine V_call Tryz.call68 rfl rfl rfl rfl (slices_BinarySearchFunc_Lknow_Posting_know_Posting_int_c (Dw := Dw) w10 hA t.list_ v15 h17 id_ (fun y33 y34 => know_Term_posting_1 y33 y34) 69 #[] #[] Tryz.call69 (fun w29 A30 ht31 h32 y21 v22 h23 v24 h25 y26 r27 h28 => (know_Term_posting_1_c (Dw := Dw) w29 h32 y21 v22 h23 v24 h25 y26  h28).mono (fun _ _ h => ⟨h.1, h.2⟩)) hx20) ?_
 rintro _ w35 ⟨rfl, hk36⟩
 have ht37 := Kp.tr hk36 hA hB
 replace hH := Hp.kp hH hk36
 replace h6 := El.tr h6 ht37
 replace hK := Tr.trans hK ht37
 replace hB := Nat.le_trans hB ht37.ex.size
 replace hA := ht37.new
 refine V_mv rfl rfl ?_
 refine V_y (Y_extract rfl rfl) rfl rfl rfl ?_
 refine V_y (Y_extract rfl rfl) rfl rfl rfl ?_
 refine V_as rfl rfl ?_
 refine V_as rfl rfl ?_
 refine V_to (fun _ _ => rfl) ?_
 refine C_seq ?_
 refine C_seq ?_
 refine C_region ?_
 refine V_mv rfl rfl ?_
 refine V_y (Y_not rfl) rfl rfl rfl ?_
 refine V_to (fun _ _ => rfl) ?_
 refine C_cond rfl (fun hc38 => ?_) (fun hc38 => ?_)
 ·rw [if_pos hc38] at hm
  refine C_seq ?_
  refine C_region ?_
  refine V_y (Y_build Tryz.underlying69 Tryz.zeroValue69 (Tryz_places69 _ Tryz.underlying69) rfl (by with_unfolding_all rfl)) rfl rfl rfl ?_
  refine V_storeC (Dw := Dw) (off := 0) (ds := [.int .i64 0, .slice none 0 0, .slice none 0 0]) hH (i := 0) rfl Tryz.sizeOf69 rfl (Nat.le_of_ble_eq_true rfl) (by exact (List.forall_mem_cons.2 ⟨rfl, (List.forall_mem_cons.2 ⟨rfl, (List.forall_mem_cons.2 ⟨rfl, (fun _ h => nomatch h)⟩)⟩)⟩)) rfl hB hA rfl rfl ?_
  intro w39 hH40 ht41
  replace hK := Tr.trans hK ht41
  replace hH : Hp w.heap.size A11 w39 (obC b9 [.int .i64 0, .slice none 0 0, .slice none 0 0] 69 :: []) := hH40
  refine V_as rfl rfl ?_
  refine V_to (fun _ _ => rfl) ?_
  obtain rfl := Option.some.inj hm
  refine C_ret ?_
  try simp only [↓inBlock_ret, ↓then_ret]
  exact retQ rfl (Res.l2 Tryz.results32 (RL.cell rfl (loadVar_agg (Hp.part (off := 0) (n := 3) (ds := [.int .i64 0, .slice none 0 0, .slice none 0 0]) hH (i := 0) rfl rfl) Tryz.isAgg69 Tryz.sizeOf69)) (RL.tmp rfl)) ⟨.slice none 0 0, .slice none 0 0, rfl, Sl.nil, Sl.nil, hK.kp⟩
 ·rw [if_neg (nt hc38)] at hm
  refine C_skip_to (fun _ _ => rfl) ?_
  refine C_seq ?_
  refine C_region ?_
  have h42 := El_know_Term_1 h6
  refine V_y (Y_fieldAddr Tryz.underlying51 rfl Tryz.sizeOf49 (by decide) rfl) rfl rfl rfl ?_
  obtain ⟨v43, h44, h45⟩ := El.list h42
  refine V_y (Y_load h44 Tryz.isAgg49 rfl) rfl rfl rfl ?_
  refine V_mv rfl rfl ?_
  obtain ⟨x46, hx46, hm⟩ := Option.bind_eq_some_iff.1 hm
  refine V_indexAddr h45 hx46 Tryz.underlying49 Tryz.sizeOf69 rfl rfl rfl ?_
  intro b47 o48 h49
  obtain ⟨v50, v52, h54, h51, h53⟩ := El_know_Posting h49
  refine V_y (Y_loadA h54 Tryz.isAgg69 Tryz.sizeOf69 rfl) rfl rfl rfl ?_
  have h60 : (v50).oneCell' = true := by obtain ⟨_, _, e, _⟩ := Sl.form h51; rw [e]; rfl
  have h63 : (v52).oneCell' = true := by obtain ⟨_, _, e, _⟩ := Sl.form h53; rw [e]; rfl
  refine V_storeC (Dw := Dw) (off := 0) (ds := [.int .i64 x46.id_, v50, v52]) hH (i := 0) rfl Tryz.sizeOf69 rfl (Nat.le_of_ble_eq_true rfl) (by exact (List.forall_mem_cons.2 ⟨rfl, (List.forall_mem_cons.2 ⟨h60, (List.forall_mem_cons.2 ⟨h63, (fun _ h => nomatch h)⟩)⟩)⟩)) rfl hB hA rfl rfl ?_
  intro w55 hH56 ht57
  replace h51 := Sl.tr h51 ht57
  replace h53 := Sl.tr h53 ht57
  replace hK := Tr.trans hK ht57
  replace hH : Hp w.heap.size A11 w55 (obC b9 [.int .i64 x46.id_, v50, v52] 69 :: []) := hH56
  refine V_as rfl rfl ?_
  refine V_to (fun _ _ => rfl) ?_
  obtain rfl := Option.some.inj hm
  refine C_ret ?_
  try simp only [↓inBlock_ret, ↓then_ret]
  exact retQ rfl (Res.l2 Tryz.results32 (RL.cell rfl (loadVar_agg (Hp.part (off := 0) (n := 3) (ds := [.int .i64 x46.id_, v50, v52]) hH (i := 0) rfl rfl) Tryz.isAgg69 Tryz.sizeOf69)) (RL.tmp rfl)) ⟨v50, v52, rfl, (Sl.out (Dw := Dw) h51 hA0 hK), (Sl.out (Dw := Dw) h53 hA0 hK), hK.kp⟩

set_option maxRecDepth 4000 in
set_option maxHeartbeats 4000000 in
theorem slices_IndexFunc_Lint_int_c (w : World) {A : Nat → Prop} (hA : ∀ b, w.heap.size ≤ b → A b) (s : (List Int)) (v_s : Value) (h_s : Sl A w v_s s) (f : Int → Option Bool) (f_f : FuncId) (f_a f_c : Array Value) (f_call : ∀ (args : Array Value) (w : World), (callFunc f_f args).run Tryz.prog w = .ok (.enter f_f args) w) (f_spec : ∀ (w1 : World) (A1 : Nat → Prop), Tr Dw w.heap.size A w A1 w1 → (∀ b, w1.heap.size ≤ b → A1 b) → ∀ (y0 : Int) (r : Bool), f y0 = some r → Ret Tryz.prog f_f (f_a ++ #[.int .i64 y0] ++ f_c) w1 fun v w' => v = .bool r ∧ Kp Dw w1 w') {r : Int} (hm : slices_IndexFunc_Lint_int s f = some r) : Ret Tryz.prog 87 #[v_s, .func (.func f_f) f_a f_c] w fun v w' => v = .int .i64 r ∧ Kp Dw w w' := by
 unfold slices_IndexFunc_Lint_int at hm
 refine enter Tryz.func87 rfl Tryz.ntmps87 rfl ?_
 have hA0 := hA
 have hB := Nat.le_refl w.heap.size
 have hK : Tr Dw w.heap.size A w A w := Tr.refl (Dw := Dw) hA
 have hH : Hp w.heap.size A w [] := Hp.nil
 refine C_seq ?_
 refine C_region ?_
 refine V_as rfl rfl ?_
 refine V_to (fun _ _ => rfl) ?_
 refine C_seq ?_
 refine C_seq ?_
 refine C_region ?_
 refine V_mv rfl rfl ?_
 refine V_y (Y_lenSl h_s rfl Tryz.underlying22 rfl) rfl rfl rfl ?_
 refine V_mv rfl rfl ?_
 refine V_to (fun _ _ => rfl) ?_
 have hn23 := Sl.le h_s
 obtain ⟨o3, ho3, hm⟩ := Option.bind_eq_some_iff.1 hm
 refine C_cutG (ι := (Unit × (Nat → Prop))) (fun ⟨s4, A10⟩ => []) (fun ⟨s4, A10⟩ => fun w' => o3 = .fin s4 ∧ Hp w.heap.size A10 w' ([]) ∧ Tr Dw w.heap.size A w A10 w') ?_ ?_
 ·refine C_block ?_
  refine C_range ho3 (fun k6 _ a w' => ∃ i : (Nat → Prop), Has ⟨19, [], none⟩ a ([(0, v_s), (1, .func (.func f_f) f_a f_c), (7, .int .i64 (s.length : Int)), (8, .int .i64 (k6 : Int))]) ∧ Hp w.heap.size i w' ([]) ∧ Tr Dw w.heap.size A w i w') (fun a ha => ⟨A, ha.sub ⟨rfl, rfl, rfl, rfl, trivial⟩, ⟨hH, Tr.refl (Dw := Dw) hA⟩⟩) ?_
  rintro K k6 _ a w13 ⟨A14, ha36, hH15, hr5⟩ hle19 K22 h21
  refine C_of ?_ ha36
  replace h_s := Sl.tr h_s hr5
  replace hK := Tr.trans hK hr5
  replace hB := Nat.le_trans hB hr5.ex.size
  replace hA := hr5.new
  replace hH : Hp w.heap.size A14 w13 ([]) := hH15
  refine C_seq (C_region (V_y (Y_lss rfl rfl) rfl rfl rfl (V_to (fun _ _ => rfl) ?_)))
  refine C_seq ?_
  refine C_cond rfl (fun hc24 => ?_) (fun hc24 => ?_)
  ·have hlt20 := lt_of_dec hc24
   obtain ⟨x16, h17, h18⟩ := K22 hlt20
   refine C_skip_to (fun _ _ => rfl) ?_
   refine C_seq ?_
   refine C_block ?_
   refine C_seq ?_
   refine C_region ?_
   refine V_mv rfl rfl ?_
   refine V_as rfl rfl ?_
   refine V_to (fun _ _ => rfl) ?_
   refine C_seq ?_
   refine C_region ?_
   refine V_mv rfl rfl ?_
   refine V_mv rfl rfl ?_
   refine V_mv rfl rfl ?_
   obtain ⟨x25, hx25, h17⟩ := Option.bind_eq_some_iff.1 h17
   refine V_indexAddr h_s hx25 Tryz.underlying22 Tryz.sizeOf3 rfl rfl rfl ?_
   intro b26 o27 h28
   refine V_y (Y_load (El.int h28) Tryz.isAgg3 rfl) rfl rfl rfl ?_
   obtain ⟨x29, hx29, h17⟩ := Option.bind_eq_some_iff.1 h17
   refine V_call f_call rfl rfl rfl rfl (f_spec w13 _ hK hA x25 _ hx29) ?_
   rintro _ w30 ⟨rfl, hk31⟩
   have ht32 := Kp.tr hk31 hA hB
   replace hH := Hp.kp hH hk31
   replace hK := Tr.trans hK ht32
   replace hr5 := Tr.trans hr5 ht32
   refine V_to (fun _ _ => rfl) ?_
   refine C_cond rfl (fun hc33 => ?_) (fun hc33 => ?_)
   ·rw [if_pos hc33] at h17
    refine C_seq ?_
    refine C_region ?_
    refine V_mv rfl rfl ?_
    refine V_as rfl rfl ?_
    refine V_to (fun _ _ => rfl) ?_
    obtain rfl := Option.some.inj h17
    obtain rfl := (h18 : Lp.rt _ = _)
    rw [Lp.andThen_rt] at hm
    obtain rfl := Option.some.inj hm
    refine C_ret ?_
    try simp only [↓inBlock_ret, ↓then_ret]
    exact retQ rfl (Res.one Tryz.results87 rfl) ⟨rfl, hK.kp⟩
   ·rw [if_neg (nt hc33)] at h17
    refine C_skip_to (fun _ _ => rfl) ?_
    refine C_region ?_
    refine V_y (Y_addI rfl rfl) rfl rfl rfl ?_
    refine V_mv rfl rfl ?_
    obtain rfl := Option.some.inj h17
    refine V_end (fun a ha34 => ?_)
    exact ⟨(), hlt20, h18, ⟨A14, ha34.sub ⟨rfl, rfl, rfl, (congrArg (fun z => some (Value.int .i64 z)) (w64_succ hlt20 hn23)), trivial⟩, ⟨hH, hr5⟩⟩⟩
  ·refine C_exit (fun a ha35 => ?_)
   exact ⟨((), A14), ha35.sub trivial, ⟨(h21 (eq_of_dec hle19 hc24)).symm, hH, hr5⟩⟩
 rintro ⟨s4, A10⟩ w7 ⟨rfl, hH11, hk8⟩ a ha9
 rw [Lp.andThen_fin] at hm
 replace hK := Tr.trans hK hk8
 replace hA := hk8.new
 replace hH : Hp w.heap.size A10 w7 ([]) := hH11
 refine C_at (n := ⟨19, [], none⟩) (fun _ _ => rfl) ?_ ha9
 refine C_seq ?_
 refine C_region ?_
 refine V_as rfl rfl ?_
 refine V_to (fun _ _ => rfl) ?_
 obtain rfl := Option.some.inj hm
 refine C_ret ?_
 try simp only [↓inBlock_ret, ↓then_ret]
 exact retQ rfl (Res.one Tryz.results87 rfl) ⟨rfl, hK.kp⟩

set_option maxRecDepth 4000 in
set_option maxHeartbeats 4000000 in
theorem slices_ContainsFunc_Lint_int_c (w : World) {A : Nat → Prop} (hA : ∀ b, w.heap.size ≤ b → A b) (s : (List Int)) (v_s : Value) (h_s : Sl A w v_s s) (f : Int → Option Bool) (f_f : FuncId) (f_a f_c : Array Value) (f_call : ∀ (args : Array Value) (w : World), (callFunc f_f args).run Tryz.prog w = .ok (.enter f_f args) w) (f_spec : ∀ (w1 : World) (A1 : Nat → Prop), Tr Dw w.heap.size A w A1 w1 → (∀ b, w1.heap.size ≤ b → A1 b) → ∀ (y0 : Int) (r : Bool), f y0 = some r → Ret Tryz.prog f_f (f_a ++ #[.int .i64 y0] ++ f_c) w1 fun v w' => v = .bool r ∧ Kp Dw w1 w') {r : Bool} (hm : slices_ContainsFunc_Lint_int s f = some r) : Ret Tryz.prog 65 #[v_s, .func (.func f_f) f_a f_c] w fun v w' => v = .bool r ∧ Kp Dw w w' := by
 unfold slices_ContainsFunc_Lint_int at hm
 refine enter Tryz.func65 rfl Tryz.ntmps65 rfl ?_
 have hA0 := hA
 have hB := Nat.le_refl w.heap.size
 have hK : Tr Dw w.heap.size A w A w := Tr.refl (Dw := Dw) hA
 have hH : Hp w.heap.size A w [] := Hp.nil
 refine C_seq ?_
 refine C_region ?_
 refine V_as rfl rfl ?_
 refine V_to (fun _ _ => rfl) ?_
 refine C_seq ?_
 refine C_region ?_
 refine V_mv rfl rfl ?_
 refine V_mv rfl rfl ?_
 obtain ⟨x3, hx3, hm⟩ := Option.bind_eq_some_iff.1 hm
 refine V_call Tryz.call87 rfl rfl rfl rfl (slices_IndexFunc_Lint_int_c (Dw := Dw) w hA s v_s h_s f f_f f_a f_c f_call (fun w1 A1 ht => f_spec w1 A1 (Tr.trans hK (Tr.lower (Dw := Dw) ht hB))) hx3) ?_
 rintro _ w4 ⟨rfl, hk5⟩
 have ht6 := Kp.tr hk5 hA hB
 replace hK := Tr.trans hK ht6
 refine V_y (Y_geq rfl rfl) rfl rfl rfl ?_
 refine V_as rfl rfl ?_
 refine V_to (fun _ _ => rfl) ?_
 obtain rfl := Option.some.inj hm
 refine C_ret ?_
 try simp only [↓inBlock_ret, ↓then_ret]
 exact retQ rfl (Res.one Tryz.results65 rfl) ⟨rfl, hK.kp⟩

set_option maxRecDepth 4000 in
set_option maxHeartbeats 4000000 in
theorem know_Index_phrase_1_1_c (w : World) {A : Nat → Prop} (at_ : Int) (p1 : (List (List Int))) (b_p1 : Nat) (h_p1 : El A w b_p1 0 p1) {r : Bool} (hm : know_Index_phrase_1_1 at_ p1 = some r) : Ret Tryz.prog 66 #[.int .i64 at_, .pointer (some ⟨b_p1, 0, none⟩)] w fun v w' => v = .bool r ∧ w = w' := by
 unfold know_Index_phrase_1_1 at hm
 refine enter Tryz.func66 rfl Tryz.ntmps66 rfl ?_
 refine C_seq ?_
 refine C_region ?_
 refine V_as rfl rfl ?_
 refine V_to (fun _ _ => rfl) ?_
 refine C_seq ?_
 refine C_seq ?_
 refine C_region ?_
 obtain ⟨v1, h2, h3⟩ := El.list h_p1
 refine V_y (Y_load h2 Tryz.isAgg81 rfl) rfl rfl rfl ?_
 have hn4 := Sl.le h3
 refine V_y (Y_lenSl h3 rfl Tryz.underlying81 rfl) rfl rfl rfl ?_
 refine V_mv rfl rfl ?_
 refine V_to (fun _ _ => rfl) ?_
 obtain ⟨o5, ho5, hm⟩ := Option.bind_eq_some_iff.1 hm
 refine C_cutG (ι := Unit) (fun (s6 : Unit) => []) (fun (s6 : Unit) => fun w' => o5 = .fin s6 ∧ w = w') ?_ ?_
 ·refine C_block ?_
  refine C_range ho5 (fun k8 _ a w' => ∃ i : Unit, Has ⟨26, [], none⟩ a ([(0, .int .i64 at_), (1, .pointer (some ⟨b_p1, 0, none⟩)), (8, .int .i64 (p1.length : Int)), (9, .int .i64 (k8 : Int))]) ∧ w = w') (fun a ha => ⟨(), ha.sub ⟨rfl, rfl, rfl, rfl, trivial⟩, rfl⟩) ?_
  rintro K k8 _ a _ ⟨_, ha37, rfl⟩ hle17 K20 h19
  refine C_of ?_ ha37
  refine C_seq (C_region (V_y (Y_lss rfl rfl) rfl rfl rfl (V_to (fun _ _ => rfl) ?_)))
  refine C_seq ?_
  refine C_cond rfl (fun hc22 => ?_) (fun hc22 => ?_)
  ·have hlt18 := lt_of_dec hc22
   obtain ⟨x14, h15, h16⟩ := K20 hlt18
   refine C_skip_to (fun _ _ => rfl) ?_
   refine C_seq ?_
   refine C_block ?_
   refine C_seq ?_
   refine C_region ?_
   refine V_mv rfl rfl ?_
   refine V_as rfl rfl ?_
   refine V_to (fun _ _ => rfl) ?_
   refine C_seq ?_
   refine C_region ?_
   obtain ⟨v23, h24, h25⟩ := El.list h_p1
   refine V_y (Y_load h24 Tryz.isAgg81 rfl) rfl rfl rfl ?_
   refine V_mv rfl rfl ?_
   obtain ⟨x26, hx26, h15⟩ := Option.bind_eq_some_iff.1 h15
   refine V_indexAddr h25 hx26 Tryz.underlying81 Tryz.sizeOf22 rfl rfl rfl ?_
   intro b27 o28 h29
   obtain ⟨v30, h31, h32⟩ := El.list h29
   refine V_y (Y_load h31 Tryz.isAgg22 rfl) rfl rfl rfl ?_
   refine V_mv rfl rfl ?_
   refine V_mv rfl rfl ?_
   refine V_y (Y_addI rfl rfl) rfl rfl rfl ?_
   obtain ⟨x33, hx33, h15⟩ := Option.bind_eq_some_iff.1 h15
   refine V_call Tryz.call53 rfl rfl rfl rfl (slices_BinarySearch_Lint_int_c w x26 v30 h32 (w64 (at_ + (k8 : Int))) hx33) ?_
   rintro _ _ ⟨rfl, rfl⟩
   refine V_mv rfl rfl ?_
   refine V_y (Y_extract rfl rfl) rfl rfl rfl ?_
   refine V_y (Y_extract rfl rfl) rfl rfl rfl ?_
   refine V_as rfl rfl ?_
   refine V_as rfl rfl ?_
   refine V_to (fun _ _ => rfl) ?_
   refine C_seq ?_
   refine C_region ?_
   refine V_mv rfl rfl ?_
   refine V_y (Y_not rfl) rfl rfl rfl ?_
   refine V_to (fun _ _ => rfl) ?_
   refine C_cond rfl (fun hc34 => ?_) (fun hc34 => ?_)
   ·rw [if_pos hc34] at h15
    refine C_seq ?_
    refine C_region ?_
    refine V_as rfl rfl ?_
    refine V_to (fun _ _ => rfl) ?_
    obtain rfl := Option.some.inj h15
    obtain rfl := (h16 : Lp.rt _ = _)
    rw [Lp.andThen_rt] at hm
    obtain rfl := Option.some.inj hm
    refine C_ret ?_
    try simp only [↓inBlock_ret, ↓then_ret]
    exact retQ rfl (Res.one Tryz.results66 rfl) ⟨rfl, rfl⟩
   ·rw [if_neg (nt hc34)] at h15
    refine C_skip_to (fun _ _ => rfl) ?_
    refine C_region ?_
    refine V_y (Y_addI rfl rfl) rfl rfl rfl ?_
    refine V_mv rfl rfl ?_
    obtain rfl := Option.some.inj h15
    refine V_end (fun a ha35 => ?_)
    exact ⟨(), hlt18, h16, ⟨(), ha35.sub ⟨rfl, rfl, rfl, (congrArg (fun z => some (Value.int .i64 z)) (w64_succ hlt18 hn4)), trivial⟩, rfl⟩⟩
  ·refine C_exit (fun a ha36 => ?_)
   exact ⟨(), ha36.sub trivial, ⟨(h19 (eq_of_dec hle17 hc22)).symm, rfl⟩⟩
 rintro s6 _ ⟨rfl, rfl⟩ a ha11
 rw [Lp.andThen_fin] at hm
 refine C_at (n := ⟨26, [], none⟩) (fun _ _ => rfl) ?_ ha11
 refine C_seq ?_
 refine C_region ?_
 refine V_as rfl rfl ?_
 refine V_to (fun _ _ => rfl) ?_
 obtain rfl := Option.some.inj hm
 refine C_ret ?_
 try simp only [↓inBlock_ret, ↓then_ret]
 exact retQ rfl (Res.one Tryz.results66 rfl) ⟨rfl, rfl⟩

set_option maxRecDepth 4000 in
set_option maxHeartbeats 4000000 in
theorem know_Index_phrase_1_c (w : World) {A : Nat → Prop} (hA : ∀ b, w.heap.size ≤ b → A b) (l : (List (List Int))) (v_l : Value) (h_l : Sl A w v_l l) {r : Bool} (hm : know_Index_phrase_1 l = some r) : Ret Tryz.prog 64 #[v_l] w fun v w' => v = .bool r ∧ Kp Dw w w' := by
 unfold know_Index_phrase_1 at hm
 refine enter Tryz.func64 rfl Tryz.ntmps64 rfl ?_
 have hA0 := hA
 have hB := Nat.le_refl w.heap.size
 have hK : Tr Dw w.heap.size A w A w := Tr.refl (Dw := Dw) hA
 have hH : Hp w.heap.size A w [] := Hp.nil
 refine C_seq ?_
 refine C_region ?_
 refine V_box rfl rfl ?_
 intro b3 w4 h5
 have h10 : (v_l).oneCell' = true := by obtain ⟨_, _, e, _⟩ := Sl.form h_l; rw [e]; rfl
 have hk7 := h5.kp (Dw := Dw)
 have h6 : El (α := (List (List Int))) A w4 b3 0 l := h5.el hA (by rw [Value.cells_one h10]; exact ⟨_, rfl, h_l⟩)
 have ht11 := Kp.tr hk7 hA hB
 replace hK := Tr.trans hK ht11
 replace hB := Nat.le_trans hB ht11.ex.size
 replace hA := ht11.new
 refine V_as rfl rfl ?_
 refine V_to (fun _ _ => rfl) ?_
 refine C_seq ?_
 refine C_region ?_
 obtain ⟨v12, h13, h14⟩ := El.list h6
 refine V_y (Y_load h13 Tryz.isAgg81 rfl) rfl rfl rfl ?_
 obtain ⟨x15, hx15, hm⟩ := Option.bind_eq_some_iff.1 hm
 refine V_indexAddr h14 hx15 Tryz.underlying81 Tryz.sizeOf22 rfl rfl rfl ?_
 intro b16 o17 h18
 obtain ⟨v19, h20, h21⟩ := El.list h18
 refine V_y (Y_load h20 Tryz.isAgg22 rfl) rfl rfl rfl ?_
 refine V_y (Y_makeFunc rfl rfl) rfl rfl rfl ?_
 obtain ⟨x23, hx23, hm⟩ := Option.bind_eq_some_iff.1 hm
 refine V_call Tryz.call65 rfl rfl rfl rfl (slices_ContainsFunc_Lint_int_c (Dw := Dw) w4 hA x15 v19 h21 (fun y31 => know_Index_phrase_1_1 y31 l) 66 #[] #[.pointer (some ⟨b3, 0, none⟩)] Tryz.call66 (fun w27 A28 ht29 h30 y24 r25 h26 => (know_Index_phrase_1_1_c w27  y24 l b3 (El.tr h6 ht29) h26).mono (fun _ _ h => ⟨h.1, h.2 ▸ Kp.refl (Dw := Dw) _⟩)) hx23) ?_
 rintro _ w33 ⟨rfl, hk34⟩
 have ht35 := Kp.tr hk34 hA hB
 replace hK := Tr.trans hK ht35
 refine V_as rfl rfl ?_
 refine V_to (fun _ _ => rfl) ?_
 obtain rfl := Option.some.inj hm
 refine C_ret ?_
 try simp only [↓inBlock_ret, ↓then_ret]
 exact retQ rfl (Res.one Tryz.results64 rfl) ⟨rfl, hK.kp⟩

end Go.Proofs.YtkjlbaacbkdnfaaGreatDoor.W
