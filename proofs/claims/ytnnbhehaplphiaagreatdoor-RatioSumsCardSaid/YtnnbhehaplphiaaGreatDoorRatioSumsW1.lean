/-
  Written by program (gen.py) from the IR of the dump: each function computes its model.
-/
import Derived.Test.YtnnbhehaplphiaaGreatDoorRatioSumsW0
namespace Go.Proofs.YtnnbhehaplphiaaGreatDoor.W
open Go Go.RowKit Go.Pu Go.Gw Go.Proofs Go.Proofs.YtnnbhehaplphiaaGreatDoor.M
set_option linter.unusedVariables false
set_option linter.unusedSimpArgs false
variable {Dw : Prop}

set_option maxRecDepth 4000 in
set_option maxHeartbeats 4000000 in
theorem staff_read_c (w : World) {A : Nat → Prop} (hA : ∀ b, w.heap.size ≤ b → A b) (hT : Fz Tryz_FR A w) (r_ : staff_Ratio) {r : (staff_ratio × Int)} (hm : staff_read r_ = some r) : Ret Tryz.prog 25 #[.agg #[.string r_.num, .string r_.den]] w fun v w' => ∃ s0 s1, v = .tuple #[.agg #[s0, s1], .int .i64 r.2] ∧ Sl A w' s0 r.1.num ∧ Sl A w' s1 r.1.den ∧ Kp False w w' := by
 unfold staff_read at hm
 refine enter Tryz.func25 rfl Tryz.ntmps25 rfl ?_
 have hA0 := hA
 have hB := Nat.le_refl w.heap.size
 have hK : Tr False w.heap.size A w A w := Tr.refl (Dw := False) hA
 have hH : Hp w.heap.size A w [] := Hp.nil
 refine C_seq ?_
 refine C_region ?_
 refine V_box rfl rfl ?_
 intro b1 w2 h3
 have hk5 := h3.kp (Dw := False)
 have h4 : El (α := staff_Ratio) A w2 b1 0 r_ := h3.el hA ⟨[.string r_.num], _, rfl, rfl, rfl⟩
 have ht6 := Kp.tr (Dw := False) hk5 hA hB
 replace hH := Hp.kp (Dw := False) hH hk5
 replace hK := Tr.trans (Dw := False) hK ht6
 replace hB := Nat.le_trans hB ht6.ex.size
 replace hA := ht6.new
 refine V_allocH (Dw := False) (B := w.heap.size) hH Tryz.zeroValue35 hB hA rfl ?_
 intro b7 w9 A10 hH11 ht12
 replace h4 := El.tr (Dw := False) h4 ht12
 replace hK := Tr.trans (Dw := False) hK ht12
 replace hB := Nat.le_trans hB ht12.ex.size
 replace hA := ht12.new
 replace hH : Hp w.heap.size A10 w9 (obC b7 [.slice none 0 0, .slice none 0 0] 35 :: []) := hH11
 refine V_as rfl rfl ?_
 refine V_to (fun _ _ => rfl) ?_
 refine C_seq ?_
 refine C_seq ?_
 refine C_region ?_
 have h13 := El_staff_Ratio_0 h4
 refine V_y (Y_fieldAddr Tryz.underlying23 rfl Tryz.sizeOf9 (by decide) rfl) rfl rfl rfl ?_
 refine V_y (Y_load (El.str h13) Tryz.isAgg9 rfl) rfl rfl rfl ?_
 refine V_y (Y_lenStr rfl Tryz.underlying9 rfl) rfl rfl rfl ?_
 refine V_y (Y_gtr rfl rfl) rfl rfl rfl ?_
 refine V_mv rfl rfl ?_
 refine V_cut 5 (fun _ : Unit => [(1, .pointer (some ⟨b1, 0, none⟩)), (2, .pointer (some ⟨b7, 0, none⟩)), (15, .bool ((decide ((20000 : Int) < (r_.num.size : Int))) || (decide ((20000 : Int) < (r_.den.size : Int)))))]) (fun _ w' => w9 = w') ?_ ?_
 ·simp only [List.take, List.drop]
  rcases Bool.eq_false_or_eq_true (decide ((20000 : Int) < (r_.num.size : Int))) with hc14 | hc14
  ·refine V_gn rfl rfl rfl hc14 rfl rfl rfl ?_
   refine V_gn rfl rfl rfl hc14 rfl rfl rfl ?_
   refine V_gn rfl rfl rfl hc14 rfl rfl rfl ?_
   refine V_gn rfl rfl rfl hc14 rfl rfl rfl ?_
   refine V_y (Y_pick_te rfl hc14 rfl) rfl rfl rfl ?_
   exact V_end fun a ha => ⟨(), ha.sub ⟨rfl, rfl, (by rw [hc14]; rfl), trivial⟩, rfl⟩
  ·refine V_ge rfl rfl rfl hc14 ?_
   have h16 := El_staff_Ratio_1 h4
   refine V_y (Y_fieldAddr Tryz.underlying23 rfl Tryz.sizeOf9 (by decide) rfl) rfl rfl rfl ?_
   refine V_ge rfl rfl rfl hc14 ?_
   refine V_y (Y_load (El.str h16) Tryz.isAgg9 rfl) rfl rfl rfl ?_
   refine V_ge rfl rfl rfl hc14 ?_
   refine V_y (Y_lenStr rfl Tryz.underlying9 rfl) rfl rfl rfl ?_
   refine V_ge rfl rfl rfl hc14 ?_
   refine V_y (Y_gtr rfl rfl) rfl rfl rfl ?_
   refine V_y (Y_pick_fe rfl hc14 rfl) rfl rfl rfl ?_
   exact V_end fun a ha => ⟨(), ha.sub ⟨rfl, rfl, (by rw [hc14]; rfl), trivial⟩, rfl⟩
 simp only [List.take, List.drop]
 rintro _ _ rfl
 refine V_to (fun _ _ => rfl) ?_
 refine C_cond rfl (fun hc17 => ?_) (fun hc17 => ?_)
 ·rw [if_pos hc17] at hm
  refine C_seq ?_
  refine C_region ?_
  refine V_y (Y_build Tryz.underlying35 Tryz.zeroValue35 (Tryz_places35 _ Tryz.underlying35) rfl (by with_unfolding_all rfl)) rfl rfl rfl ?_
  refine V_storeC (Dw := False) (off := 0) (ds := [.slice none 0 0, .slice none 0 0]) hH (i := 0) rfl Tryz.sizeOf35 rfl (Nat.le_of_ble_eq_true rfl) (by exact (List.forall_mem_cons.2 ⟨rfl, (List.forall_mem_cons.2 ⟨rfl, (fun _ h => nomatch h)⟩)⟩)) rfl hB hA rfl rfl ?_
  intro w18 hH19 ht20
  replace hK := Tr.trans (Dw := False) hK ht20
  replace hH : Hp w.heap.size A10 w18 (obC b7 [.slice none 0 0, .slice none 0 0] 35 :: []) := hH19
  refine V_as rfl rfl ?_
  refine V_to (fun _ _ => rfl) ?_
  obtain rfl := Option.some.inj hm
  refine C_ret ?_
  try simp only [↓inBlock_ret, ↓then_ret]
  exact retQ rfl (Res.l2 Tryz.results25 (RL.cell rfl (loadVar_agg (Hp.part (off := 0) (n := 2) (ds := [.slice none 0 0, .slice none 0 0]) hH (i := 0) rfl rfl) Tryz.isAgg35 Tryz.sizeOf35)) (RL.tmp rfl)) ⟨.slice none 0 0, .slice none 0 0, rfl, Sl.nil, Sl.nil, hK.kp⟩
 ·rw [if_neg (nt hc17)] at hm
  refine C_skip_to (fun _ _ => rfl) ?_
  refine C_seq ?_
  refine C_seq ?_
  refine C_region_qt (Dw := False) 6 Tryz_mixed (by kernel_rfl) ?_
  simp only [List.take, List.drop]
  have h21 := El_staff_Ratio_0 h4
  refine VQ_y (fun w' hw' => Y_fieldAddr Tryz.underlying23 rfl Tryz.sizeOf9 (by decide) rfl) rfl rfl rfl ?_
  refine VQ_y (fun w' hw' => Y_load (El.str (El.kp (Dw := False) h21 hw')) Tryz.isAgg9 rfl) rfl rfl rfl ?_
  obtain ⟨x22, hx22, hm⟩ := Option.bind_eq_some_iff.1 hm
  refine VQ_call (.int .i64 x22) Tryz.call42 rfl rfl rfl rfl (fun w' hw' => (staff_checkDigits_c w' r_.num hx22).mono (fun _ _ h => ⟨h.1, h.2 ▸ hw'⟩)) ?_
  have h23 := El_staff_Ratio_1 h4
  refine VQ_y (fun w' hw' => Y_fieldAddr Tryz.underlying23 rfl Tryz.sizeOf9 (by decide) rfl) rfl rfl rfl ?_
  refine VQ_y (fun w' hw' => Y_load (El.str (El.kp (Dw := False) h23 hw')) Tryz.isAgg9 rfl) rfl rfl rfl ?_
  obtain ⟨x24, hx24, hm⟩ := Option.bind_eq_some_iff.1 hm
  refine VQ_call (.int .i64 x24) Tryz.call42 rfl rfl rfl rfl (fun w' hw' => (staff_checkDigits_c w' r_.den hx24).mono (fun _ _ h => ⟨h.1, h.2 ▸ hw'⟩)) ?_
  refine VQ_tail (fun w25 hk26 => ?_)
  try simp only [List.take, List.drop]
  have ht27 := Kp.tr (Dw := False) hk26 hA hB
  replace hH := Hp.kp (Dw := False) hH hk26
  replace h4 := El.tr (Dw := False) h4 ht27
  replace hK := Tr.trans (Dw := False) hK ht27
  replace hB := Nat.le_trans hB ht27.ex.size
  replace hA := ht27.new
  refine V_buildSlice (Dw := False) (l := ([x22, x24] : List Int)) (len := 2) Tryz.underlying81 Tryz.sizeOf24 Tryz.zeroValue24 rfl (by with_unfolding_all rfl) (show (2 * 1 : Nat) ≠ 0 by decide) (show (2 * 1 : Nat) ≤ 2 ^ 24 by decide) hA ⟨[.int .i64 x22], _, rfl, rfl, ⟨[.int .i64 x24], _, rfl, rfl, rfl⟩⟩ rfl rfl ?_
  intro v28 w29 hk31 h30
  have ht32 := Kp.tr (Dw := False) hk31 hA hB
  replace hH := Hp.kp (Dw := False) hH hk31
  replace h4 := El.tr (Dw := False) h4 ht32
  replace hK := Tr.trans (Dw := False) hK ht32
  replace hB := Nat.le_trans hB ht32.ex.size
  replace hA := ht32.new
  obtain ⟨x33, hx33, hm⟩ := Option.bind_eq_some_iff.1 hm
  refine V_call Tryz.call41 rfl rfl rfl rfl (cmp_Or_api_Errno_c w29 ([x22, x24] : List Int) v28 h30 hx33) ?_
  rintro _ _ ⟨rfl, rfl⟩
  refine V_as rfl rfl ?_
  refine V_to (fun _ _ => rfl) ?_
  refine C_seq ?_
  refine C_region ?_
  refine V_mv rfl rfl ?_
  refine V_y (Y_neq rfl rfl) rfl rfl rfl ?_
  refine V_to (fun _ _ => rfl) ?_
  refine C_cond rfl (fun hc34 => ?_) (fun hc34 => ?_)
  ·rw [if_pos hc34] at hm
   refine C_seq ?_
   refine C_region ?_
   refine V_y (Y_build Tryz.underlying35 Tryz.zeroValue35 (Tryz_places35 _ Tryz.underlying35) rfl (by with_unfolding_all rfl)) rfl rfl rfl ?_
   refine V_mv rfl rfl ?_
   refine V_storeC (Dw := False) (off := 0) (ds := [.slice none 0 0, .slice none 0 0]) hH (i := 0) rfl Tryz.sizeOf35 rfl (Nat.le_of_ble_eq_true rfl) (by exact (List.forall_mem_cons.2 ⟨rfl, (List.forall_mem_cons.2 ⟨rfl, (fun _ h => nomatch h)⟩)⟩)) rfl hB hA rfl rfl ?_
   intro w35 hH36 ht37
   replace hK := Tr.trans (Dw := False) hK ht37
   replace hH : Hp w.heap.size A10 w35 (obC b7 [.slice none 0 0, .slice none 0 0] 35 :: []) := hH36
   refine V_as rfl rfl ?_
   refine V_to (fun _ _ => rfl) ?_
   obtain rfl := Option.some.inj hm
   refine C_ret ?_
   try simp only [↓inBlock_ret, ↓then_ret]
   exact retQ rfl (Res.l2 Tryz.results25 (RL.cell rfl (loadVar_agg (Hp.part (off := 0) (n := 2) (ds := [.slice none 0 0, .slice none 0 0]) hH (i := 0) rfl rfl) Tryz.isAgg35 Tryz.sizeOf35)) (RL.tmp rfl)) ⟨.slice none 0 0, .slice none 0 0, rfl, Sl.nil, Sl.nil, hK.kp⟩
  ·rw [if_neg (nt hc34)] at hm
   refine C_skip_to (fun _ _ => rfl) ?_
   refine C_seq ?_
   refine C_seq ?_
   refine C_region ?_
   have h38 := El_staff_Ratio_1 h4
   refine V_y (Y_fieldAddr Tryz.underlying23 rfl Tryz.sizeOf9 (by decide) rfl) rfl rfl rfl ?_
   refine V_y (Y_load (El.str h38) Tryz.isAgg9 rfl) rfl rfl rfl ?_
   refine V_y (Y_seql rfl rfl) rfl rfl rfl ?_
   refine V_to (fun _ _ => rfl) ?_
   refine C_cond rfl (fun hc39 => ?_) (fun hc39 => ?_)
   ·rw [if_pos hc39] at hm
    refine C_seq ?_
    refine C_region ?_
    refine V_y (Y_build Tryz.underlying35 Tryz.zeroValue35 (Tryz_places35 _ Tryz.underlying35) rfl (by with_unfolding_all rfl)) rfl rfl rfl ?_
    refine V_storeC (Dw := False) (off := 0) (ds := [.slice none 0 0, .slice none 0 0]) hH (i := 0) rfl Tryz.sizeOf35 rfl (Nat.le_of_ble_eq_true rfl) (by exact (List.forall_mem_cons.2 ⟨rfl, (List.forall_mem_cons.2 ⟨rfl, (fun _ h => nomatch h)⟩)⟩)) rfl hB hA rfl rfl ?_
    intro w40 hH41 ht42
    replace hK := Tr.trans (Dw := False) hK ht42
    replace hH : Hp w.heap.size A10 w40 (obC b7 [.slice none 0 0, .slice none 0 0] 35 :: []) := hH41
    refine V_as rfl rfl ?_
    refine V_to (fun _ _ => rfl) ?_
    obtain rfl := Option.some.inj hm
    refine C_ret ?_
    try simp only [↓inBlock_ret, ↓then_ret]
    exact retQ rfl (Res.l2 Tryz.results25 (RL.cell rfl (loadVar_agg (Hp.part (off := 0) (n := 2) (ds := [.slice none 0 0, .slice none 0 0]) hH (i := 0) rfl rfl) Tryz.isAgg35 Tryz.sizeOf35)) (RL.tmp rfl)) ⟨.slice none 0 0, .slice none 0 0, rfl, Sl.nil, Sl.nil, hK.kp⟩
   ·rw [if_neg (nt hc39)] at hm
    refine C_skip_to (fun _ _ => rfl) ?_
    refine C_seq ?_
    refine C_region_chz (Dw := False) A10 7 [(1, 0), (1, 1), (1, 3), (1, 4), (2, 2), (2, 5), (1, 6)] [(4, 8)] Tryz_mixed (by kernel_rfl) (fun w43 hk44 => ?_)
    have ht45 := Kp.tr (Dw := False) hk44 hA hB
    replace hH := Hp.kp (Dw := False) hH hk44
    replace h4 := El.tr (Dw := False) h4 ht45
    replace hK := Tr.trans (Dw := False) hK ht45
    replace hB := Nat.le_trans hB ht45.ex.size
    replace hA := ht45.new
    refine CHZ_q2 (Dw := False) rfl ?_
    have h46 := El_staff_Ratio_0 h4
    refine VQ_y (fun w' hw' => Y_fieldAddr Tryz.underlying23 rfl Tryz.sizeOf9 (by decide) rfl) rfl rfl rfl ?_
    refine VQ_CHZ (Dw := False) ?_
    refine CHZ_q2 (Dw := False) rfl ?_
    refine VQ_y (fun w' hw' => Y_load (El.str (El.keep h46 (XA.ex hw'))) Tryz.isAgg9 rfl) rfl rfl rfl ?_
    refine VQ_CHZ (Dw := False) ?_
    refine CHZ_q2 (Dw := False) rfl ?_
    have h47 := El_staff_Ratio_1 h4
    refine VQ_y (fun w' hw' => Y_fieldAddr Tryz.underlying23 rfl Tryz.sizeOf9 (by decide) rfl) rfl rfl rfl ?_
    refine VQ_CHZ (Dw := False) ?_
    refine CHZ_q2 (Dw := False) rfl ?_
    refine VQ_y (fun w' hw' => Y_load (El.str (El.keep h47 (XA.ex hw'))) Tryz.isAgg9 rfl) rfl rfl rfl ?_
    refine VQ_CHZ (Dw := False) ?_
    refine CHZ_l1 (Dw := False) (k := 0) [(2, 7), (2, 2), (2, 5), (1, 6), (4, 8)] rfl ?_ rfl ?_
    ·refine CH_l1 (Dw := False) (k := 0) rfl ?_
     refine V_allocHk (Dw := False) (B := w.heap.size) hH Tryz.zeroValue35 hB hA rfl ?_
     intro b48 w49 A50 hk53 hH51 ht52
     replace hK := Tr.trans (Dw := False) hK ht52
     replace hB := Nat.le_trans hB ht52.ex.size
     replace hA := ht52.new
     replace hH : Hp w.heap.size A50 w49 (obC b48 [.slice none 0 0, .slice none 0 0] 35 :: obC b7 [.slice none 0 0, .slice none 0 0] 35 :: []) := hH51
     refine V_CH (Dw := False) (hk53) ?_
     refine CH_l1 (Dw := False) (k := 0) rfl ?_
     obtain ⟨x54, hx54, hm⟩ := Option.bind_eq_some_iff.1 hm
     refine V_call Tryz.call43 rfl rfl rfl rfl (staff_readNat_c w49 hA (Fz.tr (Dw := False) hT hK) r_.num hx54) ?_
     rintro v55 w57 ⟨_, rfl, h56, hk58⟩
     have ht59 := Kp.tr (Dw := False) hk58 hA hB
     replace hH := Hp.kp (Dw := False) hH hk58
     replace hK := Tr.trans (Dw := False) hK ht59
     replace hB := Nat.le_trans hB ht59.ex.size
     replace hA := ht59.new
     refine V_CH (Dw := False) (hk58) ?_
     refine CH_l1 (Dw := False) (k := 0) rfl ?_
     obtain ⟨x60, hx60, hm⟩ := Option.bind_eq_some_iff.1 hm
     refine V_call Tryz.call43 rfl rfl rfl rfl (staff_readNat_c w57 hA (Fz.tr (Dw := False) hT hK) r_.den hx60) ?_
     rintro v61 w63 ⟨_, rfl, h62, hk64⟩
     have ht65 := Kp.tr (Dw := False) hk64 hA hB
     replace hH := Hp.kp (Dw := False) hH hk64
     replace h56 := Sl.tr (Dw := False) h56 ht65
     replace hK := Tr.trans (Dw := False) hK ht65
     replace hB := Nat.le_trans hB ht65.ex.size
     replace hA := ht65.new
     refine V_CH (Dw := False) (hk64) ?_
     refine CH_q2 (Dw := False) rfl ?_
     refine VQ_y (fun w' hw' => Y_build (cells := #[v55, v61]) Tryz.underlying35 Tryz.zeroValue35 (Tryz_places35 _ Tryz.underlying35) rfl (by obtain ⟨a66, c67, e68, _⟩ := Sl.form h56; subst e68; obtain ⟨a69, c70, e71, _⟩ := Sl.form h62; subst e71; with_unfolding_all rfl)) rfl rfl rfl ?_
     refine VQ_CH (Dw := False) ?_
     refine CH_l1 (Dw := False) (k := 2) rfl ?_
     have h77 : (v55).oneCell' = true := by obtain ⟨_, _, e, _⟩ := Sl.form h56; rw [e]; rfl
     have h80 : (v61).oneCell' = true := by obtain ⟨_, _, e, _⟩ := Sl.form h62; rw [e]; rfl
     refine V_storeC (Dw := False) (off := 0) (ds := [v55, v61]) hH (i := 0) rfl Tryz.sizeOf35 rfl (Nat.le_of_ble_eq_true rfl) (by exact (List.forall_mem_cons.2 ⟨h77, (List.forall_mem_cons.2 ⟨h80, (fun _ h => nomatch h)⟩)⟩)) rfl hB hA rfl rfl ?_
     intro w72 hH73 ht74
     replace h56 := Sl.tr (Dw := False) h56 ht74
     replace h62 := Sl.tr (Dw := False) h62 ht74
     replace hK := Tr.trans (Dw := False) hK ht74
     replace hB := Nat.le_trans hB ht74.ex.size
     replace hA := ht74.new
     replace hH : Hp w.heap.size A50 w72 (obC b48 [v55, v61] 35 :: obC b7 [.slice none 0 0, .slice none 0 0] 35 :: []) := hH73
     obtain ⟨A81, ht82, h83, hH84⟩ := Hp.freezeC (Dw := False) (α := staff_ratio) (x := (⟨x54, x60⟩ : staff_ratio)) hH (i := 0) rfl hA (by exact ⟨[v55], _, rfl, ⟨_, rfl, h56⟩, ⟨_, rfl, h62⟩⟩)
     replace hK := Tr.trans (Dw := False) hK ht82
     replace hB := Nat.le_trans hB ht82.ex.size
     replace hA := ht82.new
     replace hH : Hp w.heap.size A81 w72 (obC b7 [.slice none 0 0, .slice none 0 0] 35 :: []) := hH84
     refine V_CHw (Dw := False) ?_
     refine CH_tail (Dw := False) ?_
     show V _ _ _ _ [] _ _
     refine V_to (fun _ _ => rfl) ?_
     refine C_seq ?_
     refine C_seq ?_
     refine C_region ?_
     have h85 := El_staff_ratio_0 h83
     refine V_y (Y_fieldAddr Tryz.underlying35 rfl Tryz.sizeOf33 (by decide) rfl) rfl rfl rfl ?_
     obtain ⟨v86, h87, h88⟩ := El.list h85
     refine V_y (Y_load h87 Tryz.isAgg33 rfl) rfl rfl rfl ?_
     have h89 := El_staff_ratio_1 h83
     refine V_y (Y_fieldAddr Tryz.underlying35 rfl Tryz.sizeOf33 (by decide) rfl) rfl rfl rfl ?_
     obtain ⟨v90, h91, h92⟩ := El.list h89
     refine V_y (Y_load h91 Tryz.isAgg33 rfl) rfl rfl rfl ?_
     obtain ⟨x93, hx93, hm⟩ := Option.bind_eq_some_iff.1 hm
     refine V_call Tryz.call16 rfl rfl rfl rfl (staff_divisor_c (Dw := False) w72 hA ((⟨x54, x60⟩ : staff_ratio).num) v86 h88 ((⟨x54, x60⟩ : staff_ratio).den) v90 h92 hx93) ?_
     rintro v94 w96 ⟨_, rfl, h95, hk97⟩
     have ht98 := Kp.tr (Dw := False) hk97 hA hB
     replace hH := Hp.kp (Dw := False) hH hk97
     replace h83 := El.tr (Dw := False) h83 ht98
     replace hK := Tr.trans (Dw := False) hK ht98
     replace hB := Nat.le_trans hB ht98.ex.size
     replace hA := ht98.new
     refine V_buildSlice (Dw := False) (l := ([1] : List Int)) (len := 1) Tryz.underlying33 Tryz.sizeOf3 Tryz.zeroValue3 rfl (by with_unfolding_all rfl) (show (1 * 1 : Nat) ≠ 0 by decide) (show (1 * 1 : Nat) ≤ 2 ^ 24 by decide) hA ⟨[.int .i64 1], _, rfl, rfl, rfl⟩ rfl rfl ?_
     intro v99 w100 hk102 h101
     have ht103 := Kp.tr (Dw := False) hk102 hA hB
     replace hH := Hp.kp (Dw := False) hH hk102
     replace h83 := El.tr (Dw := False) h83 ht103
     replace h95 := Sl.tr (Dw := False) h95 ht103
     replace hK := Tr.trans (Dw := False) hK ht103
     replace hB := Nat.le_trans hB ht103.ex.size
     replace hA := ht103.new
     obtain ⟨x104, hx104, hm⟩ := Option.bind_eq_some_iff.1 hm
     refine V_call Tryz.call27 rfl rfl rfl rfl (staff_nat_compare_c (Dw := False) w100 hA x93 v94 h95 ([1] : List Int) v99 h101 hx104) ?_
     rintro _ w105 ⟨rfl, hk106⟩
     have ht107 := Kp.tr (Dw := False) hk106 hA hB
     replace hH := Hp.kp (Dw := False) hH hk106
     replace h83 := El.tr (Dw := False) h83 ht107
     replace hK := Tr.trans (Dw := False) hK ht107
     replace hB := Nat.le_trans hB ht107.ex.size
     replace hA := ht107.new
     refine V_y (Y_neq rfl rfl) rfl rfl rfl ?_
     refine V_to (fun _ _ => rfl) ?_
     refine C_cond rfl (fun hc108 => ?_) (fun hc108 => ?_)
     ·rw [if_pos hc108] at hm
      refine C_seq ?_
      refine C_region ?_
      refine V_y (Y_build Tryz.underlying35 Tryz.zeroValue35 (Tryz_places35 _ Tryz.underlying35) rfl (by with_unfolding_all rfl)) rfl rfl rfl ?_
      refine V_storeC (Dw := False) (off := 0) (ds := [.slice none 0 0, .slice none 0 0]) hH (i := 0) rfl Tryz.sizeOf35 rfl (Nat.le_of_ble_eq_true rfl) (by exact (List.forall_mem_cons.2 ⟨rfl, (List.forall_mem_cons.2 ⟨rfl, (fun _ h => nomatch h)⟩)⟩)) rfl hB hA rfl rfl ?_
      intro w109 hH110 ht111
      replace hK := Tr.trans (Dw := False) hK ht111
      replace hH : Hp w.heap.size A81 w109 (obC b7 [.slice none 0 0, .slice none 0 0] 35 :: []) := hH110
      refine V_as rfl rfl ?_
      refine V_to (fun _ _ => rfl) ?_
      obtain rfl := Option.some.inj hm
      refine C_ret ?_
      try simp only [↓inBlock_ret, ↓then_ret]
      exact retQ rfl (Res.l2 Tryz.results25 (RL.cell rfl (loadVar_agg (Hp.part (off := 0) (n := 2) (ds := [.slice none 0 0, .slice none 0 0]) hH (i := 0) rfl rfl) Tryz.isAgg35 Tryz.sizeOf35)) (RL.tmp rfl)) ⟨.slice none 0 0, .slice none 0 0, rfl, Sl.nil, Sl.nil, hK.kp⟩
     ·rw [if_neg (nt hc108)] at hm
      refine C_skip_to (fun _ _ => rfl) ?_
      refine C_seq ?_
      refine C_region ?_
      obtain ⟨v112, v114, h116, h113, h115⟩ := El_staff_ratio h83
      refine V_y (Y_loadA h116 Tryz.isAgg35 Tryz.sizeOf35 rfl) rfl rfl rfl ?_
      have h122 : (v112).oneCell' = true := by obtain ⟨_, _, e, _⟩ := Sl.form h113; rw [e]; rfl
      have h125 : (v114).oneCell' = true := by obtain ⟨_, _, e, _⟩ := Sl.form h115; rw [e]; rfl
      refine V_storeC (Dw := False) (off := 0) (ds := [v112, v114]) hH (i := 0) rfl Tryz.sizeOf35 rfl (Nat.le_of_ble_eq_true rfl) (by exact (List.forall_mem_cons.2 ⟨h122, (List.forall_mem_cons.2 ⟨h125, (fun _ h => nomatch h)⟩)⟩)) rfl hB hA rfl rfl ?_
      intro w117 hH118 ht119
      replace h113 := Sl.tr (Dw := False) h113 ht119
      replace h115 := Sl.tr (Dw := False) h115 ht119
      replace hK := Tr.trans (Dw := False) hK ht119
      replace hH : Hp w.heap.size A81 w117 (obC b7 [v112, v114] 35 :: []) := hH118
      refine V_as rfl rfl ?_
      refine V_to (fun _ _ => rfl) ?_
      obtain rfl := Option.some.inj hm
      refine C_ret ?_
      try simp only [↓inBlock_ret, ↓then_ret]
      exact retQ rfl (Res.l2 Tryz.results25 (RL.cell rfl (loadVar_agg (Hp.part (off := 0) (n := 2) (ds := [v112, v114]) hH (i := 0) rfl rfl) Tryz.isAgg35 Tryz.sizeOf35)) (RL.tmp rfl)) ⟨v112, v114, rfl, (Sl.out (Dw := False) h113 hA0 hK), (Sl.out (Dw := False) h115 hA0 hK), hK.kp⟩
    obtain ⟨x126, hx126, hm⟩ := Option.bind_eq_some_iff.1 hm
    refine V_call Tryz.call43 rfl rfl rfl rfl (staff_readNat_c w43 hA (Fz.tr (Dw := False) hT hK) r_.num hx126) ?_
    rintro v127 w129 ⟨_, rfl, h128, hk130⟩
    have ht131 := Kp.tr (Dw := False) hk130 hA hB
    replace hH := Hp.kp (Dw := False) hH hk130
    replace hK := Tr.trans (Dw := False) hK ht131
    replace hB := Nat.le_trans hB ht131.ex.size
    replace hA := ht131.new
    refine V_CHZ (Dw := False) (hk130) ?_
    refine CHZ_l1 (Dw := False) (k := 0) [(2, 7), (2, 5), (1, 6), (4, 8)] rfl ?_ rfl ?_
    ·refine CH_l1 (Dw := False) (k := 0) rfl ?_
     refine V_allocHk (Dw := False) (B := w.heap.size) hH Tryz.zeroValue35 hB hA rfl ?_
     intro b132 w133 A134 hk137 hH135 ht136
     replace h128 := Sl.tr (Dw := False) h128 ht136
     replace hK := Tr.trans (Dw := False) hK ht136
     replace hB := Nat.le_trans hB ht136.ex.size
     replace hA := ht136.new
     replace hH : Hp w.heap.size A134 w133 (obC b132 [.slice none 0 0, .slice none 0 0] 35 :: obC b7 [.slice none 0 0, .slice none 0 0] 35 :: []) := hH135
     refine V_CH (Dw := False) (hk137) ?_
     refine CH_l1 (Dw := False) (k := 0) rfl ?_
     obtain ⟨x138, hx138, hm⟩ := Option.bind_eq_some_iff.1 hm
     refine V_call Tryz.call43 rfl rfl rfl rfl (staff_readNat_c w133 hA (Fz.tr (Dw := False) hT hK) r_.den hx138) ?_
     rintro v139 w141 ⟨_, rfl, h140, hk142⟩
     have ht143 := Kp.tr (Dw := False) hk142 hA hB
     replace hH := Hp.kp (Dw := False) hH hk142
     replace h128 := Sl.tr (Dw := False) h128 ht143
     replace hK := Tr.trans (Dw := False) hK ht143
     replace hB := Nat.le_trans hB ht143.ex.size
     replace hA := ht143.new
     refine V_CH (Dw := False) (hk142) ?_
     refine CH_q2 (Dw := False) rfl ?_
     refine VQ_y (fun w' hw' => Y_build (cells := #[v127, v139]) Tryz.underlying35 Tryz.zeroValue35 (Tryz_places35 _ Tryz.underlying35) rfl (by obtain ⟨a144, c145, e146, _⟩ := Sl.form h128; subst e146; obtain ⟨a147, c148, e149, _⟩ := Sl.form h140; subst e149; with_unfolding_all rfl)) rfl rfl rfl ?_
     refine VQ_CH (Dw := False) ?_
     refine CH_l1 (Dw := False) (k := 2) rfl ?_
     have h155 : (v127).oneCell' = true := by obtain ⟨_, _, e, _⟩ := Sl.form h128; rw [e]; rfl
     have h158 : (v139).oneCell' = true := by obtain ⟨_, _, e, _⟩ := Sl.form h140; rw [e]; rfl
     refine V_storeC (Dw := False) (off := 0) (ds := [v127, v139]) hH (i := 0) rfl Tryz.sizeOf35 rfl (Nat.le_of_ble_eq_true rfl) (by exact (List.forall_mem_cons.2 ⟨h155, (List.forall_mem_cons.2 ⟨h158, (fun _ h => nomatch h)⟩)⟩)) rfl hB hA rfl rfl ?_
     intro w150 hH151 ht152
     replace h128 := Sl.tr (Dw := False) h128 ht152
     replace h140 := Sl.tr (Dw := False) h140 ht152
     replace hK := Tr.trans (Dw := False) hK ht152
     replace hB := Nat.le_trans hB ht152.ex.size
     replace hA := ht152.new
     replace hH : Hp w.heap.size A134 w150 (obC b132 [v127, v139] 35 :: obC b7 [.slice none 0 0, .slice none 0 0] 35 :: []) := hH151
     obtain ⟨A159, ht160, h161, hH162⟩ := Hp.freezeC (Dw := False) (α := staff_ratio) (x := (⟨x126, x138⟩ : staff_ratio)) hH (i := 0) rfl hA (by exact ⟨[v127], _, rfl, ⟨_, rfl, h128⟩, ⟨_, rfl, h140⟩⟩)
     replace hK := Tr.trans (Dw := False) hK ht160
     replace hB := Nat.le_trans hB ht160.ex.size
     replace hA := ht160.new
     replace hH : Hp w.heap.size A159 w150 (obC b7 [.slice none 0 0, .slice none 0 0] 35 :: []) := hH162
     refine V_CHw (Dw := False) ?_
     refine CH_tail (Dw := False) ?_
     show V _ _ _ _ [] _ _
     refine V_to (fun _ _ => rfl) ?_
     refine C_seq ?_
     refine C_seq ?_
     refine C_region ?_
     have h163 := El_staff_ratio_0 h161
     refine V_y (Y_fieldAddr Tryz.underlying35 rfl Tryz.sizeOf33 (by decide) rfl) rfl rfl rfl ?_
     obtain ⟨v164, h165, h166⟩ := El.list h163
     refine V_y (Y_load h165 Tryz.isAgg33 rfl) rfl rfl rfl ?_
     have h167 := El_staff_ratio_1 h161
     refine V_y (Y_fieldAddr Tryz.underlying35 rfl Tryz.sizeOf33 (by decide) rfl) rfl rfl rfl ?_
     obtain ⟨v168, h169, h170⟩ := El.list h167
     refine V_y (Y_load h169 Tryz.isAgg33 rfl) rfl rfl rfl ?_
     obtain ⟨x171, hx171, hm⟩ := Option.bind_eq_some_iff.1 hm
     refine V_call Tryz.call16 rfl rfl rfl rfl (staff_divisor_c (Dw := False) w150 hA ((⟨x126, x138⟩ : staff_ratio).num) v164 h166 ((⟨x126, x138⟩ : staff_ratio).den) v168 h170 hx171) ?_
     rintro v172 w174 ⟨_, rfl, h173, hk175⟩
     have ht176 := Kp.tr (Dw := False) hk175 hA hB
     replace hH := Hp.kp (Dw := False) hH hk175
     replace h161 := El.tr (Dw := False) h161 ht176
     replace hK := Tr.trans (Dw := False) hK ht176
     replace hB := Nat.le_trans hB ht176.ex.size
     replace hA := ht176.new
     refine V_buildSlice (Dw := False) (l := ([1] : List Int)) (len := 1) Tryz.underlying33 Tryz.sizeOf3 Tryz.zeroValue3 rfl (by with_unfolding_all rfl) (show (1 * 1 : Nat) ≠ 0 by decide) (show (1 * 1 : Nat) ≤ 2 ^ 24 by decide) hA ⟨[.int .i64 1], _, rfl, rfl, rfl⟩ rfl rfl ?_
     intro v177 w178 hk180 h179
     have ht181 := Kp.tr (Dw := False) hk180 hA hB
     replace hH := Hp.kp (Dw := False) hH hk180
     replace h161 := El.tr (Dw := False) h161 ht181
     replace h173 := Sl.tr (Dw := False) h173 ht181
     replace hK := Tr.trans (Dw := False) hK ht181
     replace hB := Nat.le_trans hB ht181.ex.size
     replace hA := ht181.new
     obtain ⟨x182, hx182, hm⟩ := Option.bind_eq_some_iff.1 hm
     refine V_call Tryz.call27 rfl rfl rfl rfl (staff_nat_compare_c (Dw := False) w178 hA x171 v172 h173 ([1] : List Int) v177 h179 hx182) ?_
     rintro _ w183 ⟨rfl, hk184⟩
     have ht185 := Kp.tr (Dw := False) hk184 hA hB
     replace hH := Hp.kp (Dw := False) hH hk184
     replace h161 := El.tr (Dw := False) h161 ht185
     replace hK := Tr.trans (Dw := False) hK ht185
     replace hB := Nat.le_trans hB ht185.ex.size
     replace hA := ht185.new
     refine V_y (Y_neq rfl rfl) rfl rfl rfl ?_
     refine V_to (fun _ _ => rfl) ?_
     refine C_cond rfl (fun hc186 => ?_) (fun hc186 => ?_)
     ·rw [if_pos hc186] at hm
      refine C_seq ?_
      refine C_region ?_
      refine V_y (Y_build Tryz.underlying35 Tryz.zeroValue35 (Tryz_places35 _ Tryz.underlying35) rfl (by with_unfolding_all rfl)) rfl rfl rfl ?_
      refine V_storeC (Dw := False) (off := 0) (ds := [.slice none 0 0, .slice none 0 0]) hH (i := 0) rfl Tryz.sizeOf35 rfl (Nat.le_of_ble_eq_true rfl) (by exact (List.forall_mem_cons.2 ⟨rfl, (List.forall_mem_cons.2 ⟨rfl, (fun _ h => nomatch h)⟩)⟩)) rfl hB hA rfl rfl ?_
      intro w187 hH188 ht189
      replace hK := Tr.trans (Dw := False) hK ht189
      replace hH : Hp w.heap.size A159 w187 (obC b7 [.slice none 0 0, .slice none 0 0] 35 :: []) := hH188
      refine V_as rfl rfl ?_
      refine V_to (fun _ _ => rfl) ?_
      obtain rfl := Option.some.inj hm
      refine C_ret ?_
      try simp only [↓inBlock_ret, ↓then_ret]
      exact retQ rfl (Res.l2 Tryz.results25 (RL.cell rfl (loadVar_agg (Hp.part (off := 0) (n := 2) (ds := [.slice none 0 0, .slice none 0 0]) hH (i := 0) rfl rfl) Tryz.isAgg35 Tryz.sizeOf35)) (RL.tmp rfl)) ⟨.slice none 0 0, .slice none 0 0, rfl, Sl.nil, Sl.nil, hK.kp⟩
     ·rw [if_neg (nt hc186)] at hm
      refine C_skip_to (fun _ _ => rfl) ?_
      refine C_seq ?_
      refine C_region ?_
      obtain ⟨v190, v192, h194, h191, h193⟩ := El_staff_ratio h161
      refine V_y (Y_loadA h194 Tryz.isAgg35 Tryz.sizeOf35 rfl) rfl rfl rfl ?_
      have h200 : (v190).oneCell' = true := by obtain ⟨_, _, e, _⟩ := Sl.form h191; rw [e]; rfl
      have h203 : (v192).oneCell' = true := by obtain ⟨_, _, e, _⟩ := Sl.form h193; rw [e]; rfl
      refine V_storeC (Dw := False) (off := 0) (ds := [v190, v192]) hH (i := 0) rfl Tryz.sizeOf35 rfl (Nat.le_of_ble_eq_true rfl) (by exact (List.forall_mem_cons.2 ⟨h200, (List.forall_mem_cons.2 ⟨h203, (fun _ h => nomatch h)⟩)⟩)) rfl hB hA rfl rfl ?_
      intro w195 hH196 ht197
      replace h191 := Sl.tr (Dw := False) h191 ht197
      replace h193 := Sl.tr (Dw := False) h193 ht197
      replace hK := Tr.trans (Dw := False) hK ht197
      replace hH : Hp w.heap.size A159 w195 (obC b7 [v190, v192] 35 :: []) := hH196
      refine V_as rfl rfl ?_
      refine V_to (fun _ _ => rfl) ?_
      obtain rfl := Option.some.inj hm
      refine C_ret ?_
      try simp only [↓inBlock_ret, ↓then_ret]
      exact retQ rfl (Res.l2 Tryz.results25 (RL.cell rfl (loadVar_agg (Hp.part (off := 0) (n := 2) (ds := [v190, v192]) hH (i := 0) rfl rfl) Tryz.isAgg35 Tryz.sizeOf35)) (RL.tmp rfl)) ⟨v190, v192, rfl, (Sl.out (Dw := False) h191 hA0 hK), (Sl.out (Dw := False) h193 hA0 hK), hK.kp⟩
    obtain ⟨x204, hx204, hm⟩ := Option.bind_eq_some_iff.1 hm
    refine V_call Tryz.call43 rfl rfl rfl rfl (staff_readNat_c w129 hA (Fz.tr (Dw := False) hT hK) r_.den hx204) ?_
    rintro v205 w207 ⟨_, rfl, h206, hk208⟩
    have ht209 := Kp.tr (Dw := False) hk208 hA hB
    replace hH := Hp.kp (Dw := False) hH hk208
    replace h128 := Sl.tr (Dw := False) h128 ht209
    replace hK := Tr.trans (Dw := False) hK ht209
    replace hB := Nat.le_trans hB ht209.ex.size
    replace hA := ht209.new
    refine V_CHZ (Dw := False) (hk208) ?_
    refine CHZ_q2 (Dw := False) rfl ?_
    refine VQ_y (fun w' hw' => Y_build (cells := #[v127, v205]) Tryz.underlying35 Tryz.zeroValue35 (Tryz_places35 _ Tryz.underlying35) rfl (by obtain ⟨a210, c211, e212, _⟩ := Sl.form h128; subst e212; obtain ⟨a213, c214, e215, _⟩ := Sl.form h206; subst e215; with_unfolding_all rfl)) rfl rfl rfl ?_
    refine VQ_CHZ (Dw := False) ?_
    refine CHZ_nil (Dw := False) ?_
    refine CH_l1 (Dw := False) (k := 0) rfl ?_
    refine V_allocHk (Dw := False) (B := w.heap.size) hH Tryz.zeroValue35 hB hA rfl ?_
    intro b216 w217 A218 hk221 hH219 ht220
    replace h128 := Sl.tr (Dw := False) h128 ht220
    replace h206 := Sl.tr (Dw := False) h206 ht220
    replace hK := Tr.trans (Dw := False) hK ht220
    replace hB := Nat.le_trans hB ht220.ex.size
    replace hA := ht220.new
    replace hH : Hp w.heap.size A218 w217 (obC b216 [.slice none 0 0, .slice none 0 0] 35 :: obC b7 [.slice none 0 0, .slice none 0 0] 35 :: []) := hH219
    refine V_CH (Dw := False) (hk221) ?_
    refine CH_l1 (Dw := False) (k := 2) rfl ?_
    have h227 : (v127).oneCell' = true := by obtain ⟨_, _, e, _⟩ := Sl.form h128; rw [e]; rfl
    have h230 : (v205).oneCell' = true := by obtain ⟨_, _, e, _⟩ := Sl.form h206; rw [e]; rfl
    refine V_storeC (Dw := False) (off := 0) (ds := [v127, v205]) hH (i := 0) rfl Tryz.sizeOf35 rfl (Nat.le_of_ble_eq_true rfl) (by exact (List.forall_mem_cons.2 ⟨h227, (List.forall_mem_cons.2 ⟨h230, (fun _ h => nomatch h)⟩)⟩)) rfl hB hA rfl rfl ?_
    intro w222 hH223 ht224
    replace h128 := Sl.tr (Dw := False) h128 ht224
    replace h206 := Sl.tr (Dw := False) h206 ht224
    replace hK := Tr.trans (Dw := False) hK ht224
    replace hB := Nat.le_trans hB ht224.ex.size
    replace hA := ht224.new
    replace hH : Hp w.heap.size A218 w222 (obC b216 [v127, v205] 35 :: obC b7 [.slice none 0 0, .slice none 0 0] 35 :: []) := hH223
    obtain ⟨A231, ht232, h233, hH234⟩ := Hp.freezeC (Dw := False) (α := staff_ratio) (x := (⟨x126, x204⟩ : staff_ratio)) hH (i := 0) rfl hA (by exact ⟨[v127], _, rfl, ⟨_, rfl, h128⟩, ⟨_, rfl, h206⟩⟩)
    replace hK := Tr.trans (Dw := False) hK ht232
    replace hB := Nat.le_trans hB ht232.ex.size
    replace hA := ht232.new
    replace hH : Hp w.heap.size A231 w222 (obC b7 [.slice none 0 0, .slice none 0 0] 35 :: []) := hH234
    refine V_CHw (Dw := False) ?_
    refine CH_tail (Dw := False) ?_
    show V _ _ _ _ [] _ _
    refine V_to (fun _ _ => rfl) ?_
    refine C_seq ?_
    refine C_seq ?_
    refine C_region ?_
    have h235 := El_staff_ratio_0 h233
    refine V_y (Y_fieldAddr Tryz.underlying35 rfl Tryz.sizeOf33 (by decide) rfl) rfl rfl rfl ?_
    obtain ⟨v236, h237, h238⟩ := El.list h235
    refine V_y (Y_load h237 Tryz.isAgg33 rfl) rfl rfl rfl ?_
    have h239 := El_staff_ratio_1 h233
    refine V_y (Y_fieldAddr Tryz.underlying35 rfl Tryz.sizeOf33 (by decide) rfl) rfl rfl rfl ?_
    obtain ⟨v240, h241, h242⟩ := El.list h239
    refine V_y (Y_load h241 Tryz.isAgg33 rfl) rfl rfl rfl ?_
    obtain ⟨x243, hx243, hm⟩ := Option.bind_eq_some_iff.1 hm
    refine V_call Tryz.call16 rfl rfl rfl rfl (staff_divisor_c (Dw := False) w222 hA ((⟨x126, x204⟩ : staff_ratio).num) v236 h238 ((⟨x126, x204⟩ : staff_ratio).den) v240 h242 hx243) ?_
    rintro v244 w246 ⟨_, rfl, h245, hk247⟩
    have ht248 := Kp.tr (Dw := False) hk247 hA hB
    replace hH := Hp.kp (Dw := False) hH hk247
    replace h233 := El.tr (Dw := False) h233 ht248
    replace hK := Tr.trans (Dw := False) hK ht248
    replace hB := Nat.le_trans hB ht248.ex.size
    replace hA := ht248.new
    refine V_buildSlice (Dw := False) (l := ([1] : List Int)) (len := 1) Tryz.underlying33 Tryz.sizeOf3 Tryz.zeroValue3 rfl (by with_unfolding_all rfl) (show (1 * 1 : Nat) ≠ 0 by decide) (show (1 * 1 : Nat) ≤ 2 ^ 24 by decide) hA ⟨[.int .i64 1], _, rfl, rfl, rfl⟩ rfl rfl ?_
    intro v249 w250 hk252 h251
    have ht253 := Kp.tr (Dw := False) hk252 hA hB
    replace hH := Hp.kp (Dw := False) hH hk252
    replace h233 := El.tr (Dw := False) h233 ht253
    replace h245 := Sl.tr (Dw := False) h245 ht253
    replace hK := Tr.trans (Dw := False) hK ht253
    replace hB := Nat.le_trans hB ht253.ex.size
    replace hA := ht253.new
    obtain ⟨x254, hx254, hm⟩ := Option.bind_eq_some_iff.1 hm
    refine V_call Tryz.call27 rfl rfl rfl rfl (staff_nat_compare_c (Dw := False) w250 hA x243 v244 h245 ([1] : List Int) v249 h251 hx254) ?_
    rintro _ w255 ⟨rfl, hk256⟩
    have ht257 := Kp.tr (Dw := False) hk256 hA hB
    replace hH := Hp.kp (Dw := False) hH hk256
    replace h233 := El.tr (Dw := False) h233 ht257
    replace hK := Tr.trans (Dw := False) hK ht257
    replace hB := Nat.le_trans hB ht257.ex.size
    replace hA := ht257.new
    refine V_y (Y_neq rfl rfl) rfl rfl rfl ?_
    refine V_to (fun _ _ => rfl) ?_
    refine C_cond rfl (fun hc258 => ?_) (fun hc258 => ?_)
    ·rw [if_pos hc258] at hm
     refine C_seq ?_
     refine C_region ?_
     refine V_y (Y_build Tryz.underlying35 Tryz.zeroValue35 (Tryz_places35 _ Tryz.underlying35) rfl (by with_unfolding_all rfl)) rfl rfl rfl ?_
     refine V_storeC (Dw := False) (off := 0) (ds := [.slice none 0 0, .slice none 0 0]) hH (i := 0) rfl Tryz.sizeOf35 rfl (Nat.le_of_ble_eq_true rfl) (by exact (List.forall_mem_cons.2 ⟨rfl, (List.forall_mem_cons.2 ⟨rfl, (fun _ h => nomatch h)⟩)⟩)) rfl hB hA rfl rfl ?_
     intro w259 hH260 ht261
     replace hK := Tr.trans (Dw := False) hK ht261
     replace hH : Hp w.heap.size A231 w259 (obC b7 [.slice none 0 0, .slice none 0 0] 35 :: []) := hH260
     refine V_as rfl rfl ?_
     refine V_to (fun _ _ => rfl) ?_
     obtain rfl := Option.some.inj hm
     refine C_ret ?_
     try simp only [↓inBlock_ret, ↓then_ret]
     exact retQ rfl (Res.l2 Tryz.results25 (RL.cell rfl (loadVar_agg (Hp.part (off := 0) (n := 2) (ds := [.slice none 0 0, .slice none 0 0]) hH (i := 0) rfl rfl) Tryz.isAgg35 Tryz.sizeOf35)) (RL.tmp rfl)) ⟨.slice none 0 0, .slice none 0 0, rfl, Sl.nil, Sl.nil, hK.kp⟩
    ·rw [if_neg (nt hc258)] at hm
     refine C_skip_to (fun _ _ => rfl) ?_
     refine C_seq ?_
     refine C_region ?_
     obtain ⟨v262, v264, h266, h263, h265⟩ := El_staff_ratio h233
     refine V_y (Y_loadA h266 Tryz.isAgg35 Tryz.sizeOf35 rfl) rfl rfl rfl ?_
     have h272 : (v262).oneCell' = true := by obtain ⟨_, _, e, _⟩ := Sl.form h263; rw [e]; rfl
     have h275 : (v264).oneCell' = true := by obtain ⟨_, _, e, _⟩ := Sl.form h265; rw [e]; rfl
     refine V_storeC (Dw := False) (off := 0) (ds := [v262, v264]) hH (i := 0) rfl Tryz.sizeOf35 rfl (Nat.le_of_ble_eq_true rfl) (by exact (List.forall_mem_cons.2 ⟨h272, (List.forall_mem_cons.2 ⟨h275, (fun _ h => nomatch h)⟩)⟩)) rfl hB hA rfl rfl ?_
     intro w267 hH268 ht269
     replace h263 := Sl.tr (Dw := False) h263 ht269
     replace h265 := Sl.tr (Dw := False) h265 ht269
     replace hK := Tr.trans (Dw := False) hK ht269
     replace hH : Hp w.heap.size A231 w267 (obC b7 [v262, v264] 35 :: []) := hH268
     refine V_as rfl rfl ?_
     refine V_to (fun _ _ => rfl) ?_
     obtain rfl := Option.some.inj hm
     refine C_ret ?_
     try simp only [↓inBlock_ret, ↓then_ret]
     exact retQ rfl (Res.l2 Tryz.results25 (RL.cell rfl (loadVar_agg (Hp.part (off := 0) (n := 2) (ds := [v262, v264]) hH (i := 0) rfl rfl) Tryz.isAgg35 Tryz.sizeOf35)) (RL.tmp rfl)) ⟨v262, v264, rfl, (Sl.out (Dw := False) h263 hA0 hK), (Sl.out (Dw := False) h265 hA0 hK), hK.kp⟩

set_option maxRecDepth 4000 in
set_option maxHeartbeats 4000000 in
theorem staff_two_c (w : World) {A : Nat → Prop} (hA : ∀ b, w.heap.size ≤ b → A b) (hT : Fz Tryz_FR A w) (a_ : staff_Ratio) (b : staff_Ratio) {r : (staff_ratio × staff_ratio × Int)} (hm : staff_two a_ b = some r) : Ret Tryz.prog 11 #[.agg #[.string a_.num, .string a_.den], .agg #[.string b.num, .string b.den]] w fun v w' => ∃ s0 s1 s2 s3, v = .tuple #[.agg #[s0, s1], .agg #[s2, s3], .int .i64 r.2.2] ∧ Sl A w' s0 r.1.num ∧ Sl A w' s1 r.1.den ∧ Sl A w' s2 r.2.1.num ∧ Sl A w' s3 r.2.1.den ∧ Kp False w w' := by
 unfold staff_two at hm
 refine enter Tryz.func11 rfl Tryz.ntmps11 rfl ?_
 have hA0 := hA
 have hB := Nat.le_refl w.heap.size
 have hK : Tr False w.heap.size A w A w := Tr.refl (Dw := False) hA
 have hH : Hp w.heap.size A w [] := Hp.nil
 refine C_seq ?_
 refine C_region ?_
 refine V_box rfl rfl ?_
 intro b1 w2 h3
 have hk5 := h3.kp (Dw := False)
 have h4 : El (α := staff_Ratio) A w2 b1 0 a_ := h3.el hA ⟨[.string a_.num], _, rfl, rfl, rfl⟩
 have ht6 := Kp.tr (Dw := False) hk5 hA hB
 replace hH := Hp.kp (Dw := False) hH hk5
 replace hK := Tr.trans (Dw := False) hK ht6
 replace hB := Nat.le_trans hB ht6.ex.size
 replace hA := ht6.new
 refine V_box rfl rfl ?_
 intro b7 w9 h10
 have hk12 := h10.kp (Dw := False)
 have h11 : El (α := staff_Ratio) A w9 b7 0 b := h10.el hA ⟨[.string b.num], _, rfl, rfl, rfl⟩
 have ht13 := Kp.tr (Dw := False) hk12 hA hB
 replace hH := Hp.kp (Dw := False) hH hk12
 replace h4 := El.tr (Dw := False) h4 ht13
 replace hK := Tr.trans (Dw := False) hK ht13
 replace hB := Nat.le_trans hB ht13.ex.size
 replace hA := ht13.new
 refine V_allocH (Dw := False) (B := w.heap.size) hH Tryz.zeroValue35 hB hA rfl ?_
 intro b14 w15 A16 hH17 ht18
 replace h4 := El.tr (Dw := False) h4 ht18
 replace h11 := El.tr (Dw := False) h11 ht18
 replace hK := Tr.trans (Dw := False) hK ht18
 replace hB := Nat.le_trans hB ht18.ex.size
 replace hA := ht18.new
 replace hH : Hp w.heap.size A16 w15 (obC b14 [.slice none 0 0, .slice none 0 0] 35 :: []) := hH17
 refine V_allocH (Dw := False) (B := w.heap.size) hH Tryz.zeroValue35 hB hA rfl ?_
 intro b19 w20 A21 hH22 ht23
 replace h4 := El.tr (Dw := False) h4 ht23
 replace h11 := El.tr (Dw := False) h11 ht23
 replace hK := Tr.trans (Dw := False) hK ht23
 replace hB := Nat.le_trans hB ht23.ex.size
 replace hA := ht23.new
 replace hH : Hp w.heap.size A21 w20 (obC b19 [.slice none 0 0, .slice none 0 0] 35 :: obC b14 [.slice none 0 0, .slice none 0 0] 35 :: []) := hH22
 refine V_as rfl rfl ?_
 refine V_to (fun _ _ => rfl) ?_
 refine C_seq ?_
 refine C_region ?_
 obtain ⟨h24, _⟩ := El_staff_Ratio h4
 refine V_y (Y_loadA h24 Tryz.isAgg23 Tryz.sizeOf23 rfl) rfl rfl rfl ?_
 obtain ⟨x25, hx25, hm⟩ := Option.bind_eq_some_iff.1 hm
 refine V_call Tryz.call25 rfl rfl rfl rfl (staff_read_c w20 hA (Fz.tr (Dw := False) hT hK) a_ hx25) ?_
 rintro _ w30 ⟨v26, v28, rfl, h27, h29, hk31⟩
 have ht32 := Kp.tr (Dw := False) hk31 hA hB
 replace hH := Hp.kp (Dw := False) hH hk31
 replace h11 := El.tr (Dw := False) h11 ht32
 replace hK := Tr.trans (Dw := False) hK ht32
 replace hB := Nat.le_trans hB ht32.ex.size
 replace hA := ht32.new
 refine V_mv rfl rfl ?_
 refine V_y (Y_extract rfl rfl) rfl rfl rfl ?_
 refine V_y (Y_extract rfl rfl) rfl rfl rfl ?_
 refine V_alloc Tryz.zeroValue35 rfl ?_
 intro b33 w34 h35
 have h40 : (v26).oneCell' = true := by obtain ⟨_, _, e, _⟩ := Sl.form h27; rw [e]; rfl
 have h43 : (v28).oneCell' = true := by obtain ⟨_, _, e, _⟩ := Sl.form h29; rw [e]; rfl
 refine V_storeNew h35 Tryz.sizeOf35 rfl rfl rfl rfl (by exact (List.forall_mem_cons.2 ⟨h40, (List.forall_mem_cons.2 ⟨h43, (fun _ h => nomatch h)⟩)⟩)) ?_
 intro w36 h37
 have hk45 := h37.kp (Dw := False)
 have h44 : El (α := staff_ratio) A21 w36 b33 0 x25.1 := h37.el hA ⟨[v26], _, rfl, ⟨_, rfl, h27⟩, ⟨_, rfl, h29⟩⟩
 have ht46 := Kp.tr (Dw := False) hk45 hA hB
 replace hH := Hp.kp (Dw := False) hH hk45
 replace h11 := El.tr (Dw := False) h11 ht46
 replace hK := Tr.trans (Dw := False) hK ht46
 replace hB := Nat.le_trans hB ht46.ex.size
 replace hA := ht46.new
 refine V_as rfl rfl ?_
 refine V_to (fun _ _ => rfl) ?_
 refine C_seq ?_
 refine C_seq ?_
 refine C_region ?_
 refine V_mv rfl rfl ?_
 refine V_y (Y_neq rfl rfl) rfl rfl rfl ?_
 refine V_to (fun _ _ => rfl) ?_
 refine C_cond rfl (fun hc47 => ?_) (fun hc47 => ?_)
 ·rw [if_pos hc47] at hm
  refine C_seq ?_
  refine C_region_ch (Dw := False) A21 6 [(1, 0), (1, 1), (1, 2), (3, 3), (4, 4), (1, 5)] Tryz_mixed (by kernel_rfl) (fun w48 hk49 => ?_)
  have ht50 := Kp.tr (Dw := False) hk49 hA hB
  replace hH := Hp.kp (Dw := False) hH hk49
  replace h44 := El.tr (Dw := False) h44 ht50
  replace hK := Tr.trans (Dw := False) hK ht50
  replace hB := Nat.le_trans hB ht50.ex.size
  replace hA := ht50.new
  refine CH_q2 (Dw := False) rfl ?_
  obtain ⟨v51, v53, h55, h52, h54⟩ := El_staff_ratio h44
  refine VQ_y (fun w' hw' => Y_loadA (At.same h55 (hw'.2 _ h44.2.1 h44.1)) Tryz.isAgg35 Tryz.sizeOf35 rfl) rfl rfl rfl ?_
  refine VQ_CH (Dw := False) ?_
  refine CH_q2 (Dw := False) rfl ?_
  obtain ⟨v56, v58, h60, h57, h59⟩ := El_staff_ratio h44
  refine VQ_y (fun w' hw' => Y_loadA (At.same h60 (hw'.2 _ h44.2.1 h44.1)) Tryz.isAgg35 Tryz.sizeOf35 rfl) rfl rfl rfl ?_
  refine VQ_CH (Dw := False) ?_
  refine CH_q2 (Dw := False) rfl ?_
  refine VQ_y (fun w' hw' => Y_move rfl) rfl rfl rfl ?_
  refine VQ_CH (Dw := False) ?_
  refine CH_l1 (Dw := False) (k := 1) rfl ?_
  have h66 : (v51).oneCell' = true := by obtain ⟨_, _, e, _⟩ := Sl.form h52; rw [e]; rfl
  have h69 : (v53).oneCell' = true := by obtain ⟨_, _, e, _⟩ := Sl.form h54; rw [e]; rfl
  refine V_storeC (Dw := False) (off := 0) (ds := [v51, v53]) hH (i := 1) rfl Tryz.sizeOf35 rfl (Nat.le_of_ble_eq_true rfl) (by exact (List.forall_mem_cons.2 ⟨h66, (List.forall_mem_cons.2 ⟨h69, (fun _ h => nomatch h)⟩)⟩)) rfl hB hA rfl rfl ?_
  intro w61 hH62 ht63
  replace h52 := Sl.tr (Dw := False) h52 ht63
  replace h54 := Sl.tr (Dw := False) h54 ht63
  replace h57 := Sl.tr (Dw := False) h57 ht63
  replace h59 := Sl.tr (Dw := False) h59 ht63
  replace hK := Tr.trans (Dw := False) hK ht63
  replace hB := Nat.le_trans hB ht63.ex.size
  replace hA := ht63.new
  replace hH : Hp w.heap.size A21 w61 (obC b19 [.slice none 0 0, .slice none 0 0] 35 :: obC b14 [v51, v53] 35 :: []) := hH62
  refine V_CHx (Dw := False) (XA.tr (Dw := False) ht63) ?_
  refine CH_l1 (Dw := False) (k := 2) rfl ?_
  have h75 : (v56).oneCell' = true := by obtain ⟨_, _, e, _⟩ := Sl.form h57; rw [e]; rfl
  have h78 : (v58).oneCell' = true := by obtain ⟨_, _, e, _⟩ := Sl.form h59; rw [e]; rfl
  refine V_storeC (Dw := False) (off := 0) (ds := [v56, v58]) hH (i := 0) rfl Tryz.sizeOf35 rfl (Nat.le_of_ble_eq_true rfl) (by exact (List.forall_mem_cons.2 ⟨h75, (List.forall_mem_cons.2 ⟨h78, (fun _ h => nomatch h)⟩)⟩)) rfl hB hA rfl rfl ?_
  intro w70 hH71 ht72
  replace h52 := Sl.tr (Dw := False) h52 ht72
  replace h54 := Sl.tr (Dw := False) h54 ht72
  replace h57 := Sl.tr (Dw := False) h57 ht72
  replace h59 := Sl.tr (Dw := False) h59 ht72
  replace hK := Tr.trans (Dw := False) hK ht72
  replace hH : Hp w.heap.size A21 w70 (obC b19 [v56, v58] 35 :: obC b14 [v51, v53] 35 :: []) := hH71
  refine V_CHw (Dw := False) ?_
  refine CH_q2 (Dw := False) rfl ?_
  refine VQ_y (fun w' hw' => Y_assign rfl) rfl rfl rfl ?_
  refine VQ_CH (Dw := False) ?_
  refine CH_tail (Dw := False) ?_
  show V _ _ _ _ [] _ _
  refine V_to (fun _ _ => rfl) ?_
  obtain rfl := Option.some.inj hm
  refine C_ret ?_
  try simp only [↓inBlock_ret, ↓then_ret]
  exact retQ rfl (Res.l3 Tryz.results11 (RL.cell rfl (loadVar_agg (Hp.part (off := 0) (n := 2) (ds := [v51, v53]) hH (i := 1) rfl rfl) Tryz.isAgg35 Tryz.sizeOf35)) (RL.cell rfl (loadVar_agg (Hp.part (off := 0) (n := 2) (ds := [v56, v58]) hH (i := 0) rfl rfl) Tryz.isAgg35 Tryz.sizeOf35)) (RL.tmp rfl)) ⟨v51, v53, v56, v58, rfl, (Sl.out (Dw := False) h52 hA0 hK), (Sl.out (Dw := False) h54 hA0 hK), (Sl.out (Dw := False) h57 hA0 hK), (Sl.out (Dw := False) h59 hA0 hK), hK.kp⟩
 ·rw [if_neg (nt hc47)] at hm
  refine C_skip_to (fun _ _ => rfl) ?_
  refine C_seq ?_
  refine C_region ?_
  obtain ⟨h79, _⟩ := El_staff_Ratio h11
  refine V_y (Y_loadA h79 Tryz.isAgg23 Tryz.sizeOf23 rfl) rfl rfl rfl ?_
  obtain ⟨x80, hx80, hm⟩ := Option.bind_eq_some_iff.1 hm
  refine V_call Tryz.call25 rfl rfl rfl rfl (staff_read_c w36 hA (Fz.tr (Dw := False) hT hK) b hx80) ?_
  rintro _ w85 ⟨v81, v83, rfl, h82, h84, hk86⟩
  have ht87 := Kp.tr (Dw := False) hk86 hA hB
  replace hH := Hp.kp (Dw := False) hH hk86
  replace h44 := El.tr (Dw := False) h44 ht87
  replace hK := Tr.trans (Dw := False) hK ht87
  replace hB := Nat.le_trans hB ht87.ex.size
  replace hA := ht87.new
  refine V_mv rfl rfl ?_
  refine V_y (Y_extract rfl rfl) rfl rfl rfl ?_
  refine V_y (Y_extract rfl rfl) rfl rfl rfl ?_
  refine V_alloc Tryz.zeroValue35 rfl ?_
  intro b88 w89 h90
  have h95 : (v81).oneCell' = true := by obtain ⟨_, _, e, _⟩ := Sl.form h82; rw [e]; rfl
  have h98 : (v83).oneCell' = true := by obtain ⟨_, _, e, _⟩ := Sl.form h84; rw [e]; rfl
  refine V_storeNew h90 Tryz.sizeOf35 rfl rfl rfl rfl (by exact (List.forall_mem_cons.2 ⟨h95, (List.forall_mem_cons.2 ⟨h98, (fun _ h => nomatch h)⟩)⟩)) ?_
  intro w91 h92
  have hk100 := h92.kp (Dw := False)
  have h99 : El (α := staff_ratio) A21 w91 b88 0 x80.1 := h92.el hA ⟨[v81], _, rfl, ⟨_, rfl, h82⟩, ⟨_, rfl, h84⟩⟩
  have ht101 := Kp.tr (Dw := False) hk100 hA hB
  replace hH := Hp.kp (Dw := False) hH hk100
  replace h44 := El.tr (Dw := False) h44 ht101
  replace hK := Tr.trans (Dw := False) hK ht101
  replace hB := Nat.le_trans hB ht101.ex.size
  replace hA := ht101.new
  refine V_as rfl rfl ?_
  refine V_to (fun _ _ => rfl) ?_
  refine C_seq ?_
  refine C_region_ch (Dw := False) A21 6 [(1, 0), (1, 1), (1, 2), (3, 3), (4, 4), (1, 5)] Tryz_mixed (by kernel_rfl) (fun w102 hk103 => ?_)
  have ht104 := Kp.tr (Dw := False) hk103 hA hB
  replace hH := Hp.kp (Dw := False) hH hk103
  replace h44 := El.tr (Dw := False) h44 ht104
  replace h99 := El.tr (Dw := False) h99 ht104
  replace hK := Tr.trans (Dw := False) hK ht104
  replace hB := Nat.le_trans hB ht104.ex.size
  replace hA := ht104.new
  refine CH_q2 (Dw := False) rfl ?_
  obtain ⟨v105, v107, h109, h106, h108⟩ := El_staff_ratio h44
  refine VQ_y (fun w' hw' => Y_loadA (At.same h109 (hw'.2 _ h44.2.1 h44.1)) Tryz.isAgg35 Tryz.sizeOf35 rfl) rfl rfl rfl ?_
  refine VQ_CH (Dw := False) ?_
  refine CH_q2 (Dw := False) rfl ?_
  obtain ⟨v110, v112, h114, h111, h113⟩ := El_staff_ratio h99
  refine VQ_y (fun w' hw' => Y_loadA (At.same h114 (hw'.2 _ h99.2.1 h99.1)) Tryz.isAgg35 Tryz.sizeOf35 rfl) rfl rfl rfl ?_
  refine VQ_CH (Dw := False) ?_
  refine CH_q2 (Dw := False) rfl ?_
  refine VQ_y (fun w' hw' => Y_move rfl) rfl rfl rfl ?_
  refine VQ_CH (Dw := False) ?_
  refine CH_l1 (Dw := False) (k := 1) rfl ?_
  have h120 : (v105).oneCell' = true := by obtain ⟨_, _, e, _⟩ := Sl.form h106; rw [e]; rfl
  have h123 : (v107).oneCell' = true := by obtain ⟨_, _, e, _⟩ := Sl.form h108; rw [e]; rfl
  refine V_storeC (Dw := False) (off := 0) (ds := [v105, v107]) hH (i := 1) rfl Tryz.sizeOf35 rfl (Nat.le_of_ble_eq_true rfl) (by exact (List.forall_mem_cons.2 ⟨h120, (List.forall_mem_cons.2 ⟨h123, (fun _ h => nomatch h)⟩)⟩)) rfl hB hA rfl rfl ?_
  intro w115 hH116 ht117
  replace h106 := Sl.tr (Dw := False) h106 ht117
  replace h108 := Sl.tr (Dw := False) h108 ht117
  replace h111 := Sl.tr (Dw := False) h111 ht117
  replace h113 := Sl.tr (Dw := False) h113 ht117
  replace hK := Tr.trans (Dw := False) hK ht117
  replace hB := Nat.le_trans hB ht117.ex.size
  replace hA := ht117.new
  replace hH : Hp w.heap.size A21 w115 (obC b19 [.slice none 0 0, .slice none 0 0] 35 :: obC b14 [v105, v107] 35 :: []) := hH116
  refine V_CHx (Dw := False) (XA.tr (Dw := False) ht117) ?_
  refine CH_l1 (Dw := False) (k := 2) rfl ?_
  have h129 : (v110).oneCell' = true := by obtain ⟨_, _, e, _⟩ := Sl.form h111; rw [e]; rfl
  have h132 : (v112).oneCell' = true := by obtain ⟨_, _, e, _⟩ := Sl.form h113; rw [e]; rfl
  refine V_storeC (Dw := False) (off := 0) (ds := [v110, v112]) hH (i := 0) rfl Tryz.sizeOf35 rfl (Nat.le_of_ble_eq_true rfl) (by exact (List.forall_mem_cons.2 ⟨h129, (List.forall_mem_cons.2 ⟨h132, (fun _ h => nomatch h)⟩)⟩)) rfl hB hA rfl rfl ?_
  intro w124 hH125 ht126
  replace h106 := Sl.tr (Dw := False) h106 ht126
  replace h108 := Sl.tr (Dw := False) h108 ht126
  replace h111 := Sl.tr (Dw := False) h111 ht126
  replace h113 := Sl.tr (Dw := False) h113 ht126
  replace hK := Tr.trans (Dw := False) hK ht126
  replace hH : Hp w.heap.size A21 w124 (obC b19 [v110, v112] 35 :: obC b14 [v105, v107] 35 :: []) := hH125
  refine V_CHw (Dw := False) ?_
  refine CH_q2 (Dw := False) rfl ?_
  refine VQ_y (fun w' hw' => Y_assign rfl) rfl rfl rfl ?_
  refine VQ_CH (Dw := False) ?_
  refine CH_tail (Dw := False) ?_
  show V _ _ _ _ [] _ _
  refine V_to (fun _ _ => rfl) ?_
  obtain rfl := Option.some.inj hm
  refine C_ret ?_
  try simp only [↓inBlock_ret, ↓then_ret]
  exact retQ rfl (Res.l3 Tryz.results11 (RL.cell rfl (loadVar_agg (Hp.part (off := 0) (n := 2) (ds := [v105, v107]) hH (i := 1) rfl rfl) Tryz.isAgg35 Tryz.sizeOf35)) (RL.cell rfl (loadVar_agg (Hp.part (off := 0) (n := 2) (ds := [v110, v112]) hH (i := 0) rfl rfl) Tryz.isAgg35 Tryz.sizeOf35)) (RL.tmp rfl)) ⟨v105, v107, v110, v112, rfl, (Sl.out (Dw := False) h106 hA0 hK), (Sl.out (Dw := False) h108 hA0 hK), (Sl.out (Dw := False) h111 hA0 hK), (Sl.out (Dw := False) h113 hA0 hK), hK.kp⟩

set_option maxRecDepth 4000 in
set_option maxHeartbeats 4000000 in
theorem staff_nat_times_c (w : World) {A : Nat → Prop} (hA : ∀ b, w.heap.size ≤ b → A b) (a_ : (List Int)) (v_a_ : Value) (h_a_ : Sl A w v_a_ a_) (b : (List Int)) (v_b : Value) (h_b : Sl A w v_b b) {r : (List Int)} (hm : staff_nat_times a_ b = some r) : Ret Tryz.prog 18 #[v_a_, v_b] w fun v w' => ∃ s0, v = s0 ∧ Sl A w' s0 r ∧ Kp Dw w w' := by
 unfold staff_nat_times at hm
 refine enter Tryz.func18 rfl Tryz.ntmps18 rfl ?_
 have hA0 := hA
 have hB := Nat.le_refl w.heap.size
 have hK : Tr Dw w.heap.size A w A w := Tr.refl (Dw := Dw) hA
 have hH : Hp w.heap.size A w [] := Hp.nil
 refine C_seq ?_
 refine C_region ?_
 refine V_as rfl rfl ?_
 refine V_to (fun _ _ => rfl) ?_
 refine C_seq ?_
 refine C_seq ?_
 refine C_region ?_
 refine V_mv rfl rfl ?_
 refine V_y (Y_lenSl h_a_ rfl Tryz.underlying33 rfl) rfl rfl rfl ?_
 refine V_y (Y_eql rfl rfl) rfl rfl rfl ?_
 refine V_mv rfl rfl ?_
 refine V_cut 4 (fun _ : Unit => [(0, v_a_), (1, v_b), (21, .bool (((a_.length : Int) == 0) || ((b.length : Int) == 0)))]) (fun _ w' => w = w') ?_ ?_
 ·simp only [List.take, List.drop]
  rcases Bool.eq_false_or_eq_true ((a_.length : Int) == 0) with hc5 | hc5
  ·refine V_gn rfl rfl rfl hc5 rfl rfl rfl ?_
   refine V_gn rfl rfl rfl hc5 rfl rfl rfl ?_
   refine V_gn rfl rfl rfl hc5 rfl rfl rfl ?_
   refine V_y (Y_pick_te rfl hc5 rfl) rfl rfl rfl ?_
   exact V_end fun a ha => ⟨(), ha.sub ⟨rfl, rfl, (by rw [hc5]; rfl), trivial⟩, rfl⟩
  ·refine V_ge rfl rfl rfl hc5 ?_
   refine V_mv rfl rfl ?_
   refine V_ge rfl rfl rfl hc5 ?_
   refine V_y (Y_lenSl h_b rfl Tryz.underlying33 rfl) rfl rfl rfl ?_
   refine V_ge rfl rfl rfl hc5 ?_
   refine V_y (Y_eql rfl rfl) rfl rfl rfl ?_
   refine V_y (Y_pick_fe rfl hc5 rfl) rfl rfl rfl ?_
   exact V_end fun a ha => ⟨(), ha.sub ⟨rfl, rfl, (by rw [hc5]; rfl), trivial⟩, rfl⟩
 simp only [List.take, List.drop]
 rintro _ _ rfl
 refine V_to (fun _ _ => rfl) ?_
 refine C_cond rfl (fun hc7 => ?_) (fun hc7 => ?_)
 ·rw [if_pos hc7] at hm
  refine C_seq ?_
  refine C_region ?_
  refine V_as rfl rfl ?_
  refine V_to (fun _ _ => rfl) ?_
  obtain rfl := Option.some.inj hm
  refine C_ret ?_
  try simp only [↓inBlock_ret, ↓then_ret]
  exact retQ rfl (Res.one Tryz.results18 rfl) ⟨.slice none 0 0, rfl, Sl.nil, hK.kp⟩
 ·rw [if_neg (nt hc7)] at hm
  refine C_skip_to (fun _ _ => rfl) ?_
  refine C_seq ?_
  refine C_region ?_
  refine V_mv rfl rfl ?_
  refine V_y (Y_lenSl h_a_ rfl Tryz.underlying33 rfl) rfl rfl rfl ?_
  refine V_mv rfl rfl ?_
  refine V_y (Y_lenSl h_b rfl Tryz.underlying33 rfl) rfl rfl rfl ?_
  refine V_y (Y_addI rfl rfl) rfl rfl rfl ?_
  obtain ⟨x8, hx8, hm⟩ := Option.bind_eq_some_iff.1 hm
  refine V_makeH (Dw := Dw) (e := 3) (ti := Tryz.t3) hH hx8 (fun _ _ => rfl) Tryz.underlying33 Tryz_info3 rfl rfl rfl (by decide) (by decide) hB hA rfl rfl rfl ?_
  intro v9 w10 A11 hH12 ht13
  replace h_a_ := Sl.tr h_a_ ht13
  replace h_b := Sl.tr h_b ht13
  replace hK := Tr.trans hK ht13
  replace hB := Nat.le_trans hB ht13.ex.size
  replace hA := ht13.new
  replace hH : Hp w.heap.size A11 w10 (obS (α := Int) 3 v9 x8 :: []) := hH12
  refine V_as rfl rfl ?_
  refine V_to (fun _ _ => rfl) ?_
  refine C_seq ?_
  refine C_seq ?_
  refine C_region ?_
  refine V_mv rfl rfl ?_
  refine V_y (Y_lenSl h_a_ rfl Tryz.underlying33 rfl) rfl rfl rfl ?_
  refine V_mv rfl rfl ?_
  refine V_to (fun _ _ => rfl) ?_
  have hn38 := Sl.le h_a_
  obtain ⟨o14, ho14, hm⟩ := Option.bind_eq_some_iff.1 hm
  refine C_cutG (ι := ((List Int) × Value × (Nat → Prop))) (fun ⟨s15, v21, A23⟩ => [(5, v21)]) (fun ⟨s15, v21, A23⟩ => fun w' => o14 = .fin s15 ∧ Hp w.heap.size A23 w' (obS (α := Int) 3 v21 s15 :: []) ∧ Tr Dw w.heap.size A11 w10 A23 w') ?_ ?_
  ·refine C_block ?_
   refine C_range ho14 (fun k17 s25 a w' => ∃ i : (Value × (Nat → Prop)), Has ⟨88, [], none⟩ a ([(1, v_b), (5, i.1), (28, v_a_), (29, .int .i64 (a_.length : Int)), (30, .int .i64 (k17 : Int))]) ∧ Hp w.heap.size i.2 w' (obS (α := Int) 3 i.1 s25 :: []) ∧ Tr Dw w.heap.size A11 w10 i.2 w') (fun a ha => ⟨(v9, A11), ha.sub ⟨rfl, rfl, rfl, rfl, rfl, trivial⟩, ⟨hH, Tr.refl (Dw := Dw) hA⟩⟩) ?_
   rintro K k17 s25 a w26 ⟨⟨v27, A29⟩, ha144, hH30, hr16⟩ hle34 K37 h36
   refine C_of ?_ ha144
   replace h_b := Sl.tr h_b hr16
   replace h_a_ := Sl.tr h_a_ hr16
   replace hB := Nat.le_trans hB hr16.ex.size
   replace hA := hr16.new
   replace hH : Hp w.heap.size A29 w26 (obS (α := Int) 3 v27 s25 :: []) := hH30
   refine C_seq (C_region (V_y (Y_lss rfl rfl) rfl rfl rfl (V_to (fun _ _ => rfl) ?_)))
   refine C_seq ?_
   refine C_cond rfl (fun hc39 => ?_) (fun hc39 => ?_)
   ·have hlt35 := lt_of_dec hc39
    obtain ⟨x31, h32, h33⟩ := K37 hlt35
    refine C_skip_to (fun _ _ => rfl) ?_
    refine C_seq ?_
    obtain ⟨s41, ho40, h32⟩ := Option.bind_eq_some_iff.1 h32
    refine C_cutG (ι := (Value × (Nat → Prop))) (fun ⟨v43, A48⟩ => [(1, v_b), (5, v43), (28, v_a_), (29, .int .i64 (a_.length : Int)), (30, .int .i64 (k17 : Int))]) (fun ⟨v43, A48⟩ => fun w' => Hp w.heap.size A48 w' (obS (α := Int) 3 v43 s41 :: []) ∧ Tr Dw w.heap.size A29 w26 A48 w') ?_ ?_
    ·have hr42 : Tr Dw w.heap.size A29 w26 A29 w26 := Tr.refl (Dw := Dw) hA
     refine C_block ?_
     refine C_seq ?_
     refine C_region ?_
     refine V_mv rfl rfl ?_
     obtain ⟨x50, hx50, ho40⟩ := Option.bind_eq_some_iff.1 ho40
     refine V_indexAddr h_a_ hx50 Tryz.underlying33 Tryz.sizeOf3 rfl rfl rfl ?_
     intro b51 o52 h53
     refine V_y (Y_load (El.int h53) Tryz.isAgg3 rfl) rfl rfl rfl ?_
     refine V_as rfl rfl ?_
     refine V_as rfl rfl ?_
     refine V_to (fun _ _ => rfl) ?_
     refine C_seq ?_
     refine C_region ?_
     refine V_as rfl rfl ?_
     refine V_to (fun _ _ => rfl) ?_
     refine C_seq ?_
     refine C_seq ?_
     refine C_region ?_
     refine V_mv rfl rfl ?_
     refine V_y (Y_lenSl h_b rfl Tryz.underlying33 rfl) rfl rfl rfl ?_
     refine V_mv rfl rfl ?_
     refine V_to (fun _ _ => rfl) ?_
     have hn78 := Sl.le h_b
     obtain ⟨o54, ho54, ho40⟩ := Option.bind_eq_some_iff.1 ho40
     refine C_cutG (ι := (((List Int) × Int) × Value × (Nat → Prop))) (fun ⟨s55, v61, A63⟩ => [(1, v_b), (5, v61), (6, .int .i64 (k17 : Int)), (8, .int .i64 s55.2), (28, v_a_), (29, .int .i64 (a_.length : Int)), (30, .int .i64 (k17 : Int))]) (fun ⟨s55, v61, A63⟩ => fun w' => o54 = .fin s55 ∧ Hp w.heap.size A63 w' (obS (α := Int) 3 v61 s55.1 :: []) ∧ Tr Dw w.heap.size A29 w26 A63 w') ?_ ?_
     ·refine C_block ?_
      refine C_range ho54 (fun k57 s65 a w' => ∃ i : (Value × (Nat → Prop)), Has ⟨88, [], none⟩ a ([(1, v_b), (5, i.1), (6, .int .i64 (k17 : Int)), (7, .int .i64 x50), (8, .int .i64 s65.2), (28, v_a_), (29, .int .i64 (a_.length : Int)), (30, .int .i64 (k17 : Int)), (35, v_b), (36, .int .i64 (b.length : Int)), (37, .int .i64 (k57 : Int))]) ∧ Hp w.heap.size i.2 w' (obS (α := Int) 3 i.1 s65.1 :: []) ∧ Tr Dw w.heap.size A29 w26 i.2 w') (fun a ha => ⟨(v27, A29), ha.sub ⟨rfl, rfl, rfl, rfl, rfl, rfl, rfl, rfl, rfl, rfl, rfl, trivial⟩, ⟨hH, Tr.refl (Dw := Dw) hA⟩⟩) ?_
      rintro K k57 s65 a w66 ⟨⟨v67, A69⟩, ha99, hH70, hr56⟩ hle74 K77 h76
      refine C_of ?_ ha99
      replace h_b := Sl.tr h_b hr56
      replace hB := Nat.le_trans hB hr56.ex.size
      replace hA := hr56.new
      replace hH : Hp w.heap.size A69 w66 (obS (α := Int) 3 v67 s65.1 :: []) := hH70
      refine C_seq (C_region (V_y (Y_lss rfl rfl) rfl rfl rfl (V_to (fun _ _ => rfl) ?_)))
      refine C_seq ?_
      refine C_cond rfl (fun hc79 => ?_) (fun hc79 => ?_)
      ·have hlt75 := lt_of_dec hc79
       obtain ⟨x71, h72, h73⟩ := K77 hlt75
       refine C_skip_to (fun _ _ => rfl) ?_
       refine C_seq ?_
       refine C_block ?_
       refine C_seq ?_
       refine C_region ?_
       refine V_mv rfl rfl ?_
       obtain ⟨x80, hx80, h72⟩ := Option.bind_eq_some_iff.1 h72
       refine V_indexAddr h_b hx80 Tryz.underlying33 Tryz.sizeOf3 rfl rfl rfl ?_
       intro b81 o82 h83
       refine V_y (Y_load (El.int h83) Tryz.isAgg3 rfl) rfl rfl rfl ?_
       refine V_as rfl rfl ?_
       refine V_as rfl rfl ?_
       refine V_to (fun _ _ => rfl) ?_
       refine C_seq ?_
       refine C_region ?_
       refine V_mv rfl rfl ?_
       refine V_mv rfl rfl ?_
       refine V_mv rfl rfl ?_
       refine V_y (Y_addI rfl rfl) rfl rfl rfl ?_
       obtain ⟨x84, hx84, h72⟩ := Option.bind_eq_some_iff.1 h72
       refine V_indexAddrH (α := Int) (e := 3) (v := v67) (l := s65.1) hH (i := 0) rfl hx84 Tryz.underlying33 Tryz.sizeOf3 rfl rfl rfl ?_
       intro b85 o86 h87 hl88
       refine V_y (Y_load (El.int h87) Tryz.isAgg3 rfl) rfl rfl rfl ?_
       refine V_mv rfl rfl ?_
       refine V_mv rfl rfl ?_
       refine V_y (Y_mulI rfl rfl) rfl rfl rfl ?_
       refine V_y (Y_addI rfl rfl) rfl rfl rfl ?_
       refine V_mv rfl rfl ?_
       refine V_y (Y_addI rfl rfl) rfl rfl rfl ?_
       refine V_as rfl rfl ?_
       refine V_to (fun _ _ => rfl) ?_
       refine C_region ?_
       refine V_mv rfl rfl ?_
       refine V_mv rfl rfl ?_
       refine V_mv rfl rfl ?_
       refine V_y (Y_addI rfl rfl) rfl rfl rfl ?_
       refine V_mv rfl rfl ?_
       refine V_y (Y_rem (by rw [rem, if_neg (by decide)]) rfl rfl) rfl rfl rfl ?_
       refine V_mv rfl rfl ?_
       refine V_y (Y_quo (by rw [quo, if_neg (by decide)]) rfl rfl) rfl rfl rfl ?_
       refine V_indexAddrH (α := Int) (e := 3) (v := v67) (l := s65.1) hH (i := 0) rfl hx84 Tryz.underlying33 Tryz.sizeOf3 rfl rfl rfl ?_
       intro b89 o90 h91 hl92
       obtain ⟨x93, hx93, h72⟩ := Option.bind_eq_some_iff.1 h72
       refine V_storeH (Dw := Dw) (α := Int) (e := 3) (v := v67) (l := s65.1) hH (i := 0) rfl hl92 hx93 rfl Tryz.sizeOf3 rfl hB hA rfl rfl ?_
       intro w94 hH95 ht96
       replace hr56 := Tr.trans hr56 ht96
       replace hH : Hp w.heap.size A69 w94 (obS (α := Int) 3 v67 x93 :: []) := hH95
       refine V_as rfl rfl ?_
       refine V_to (fun _ _ => rfl) ?_
       refine C_region ?_
       refine V_y (Y_addI rfl rfl) rfl rfl rfl ?_
       refine V_mv rfl rfl ?_
       obtain rfl := Option.some.inj h72
       refine V_end (fun a ha97 => ?_)
       exact ⟨(x93, w64 (Int.tdiv (w64 ((w64 (x84 + (w64 (x50 * x80)))) + s65.2)) 1000000000)), hlt75, h73, ⟨(v67, A69), ha97.sub ⟨rfl, rfl, rfl, rfl, rfl, rfl, rfl, rfl, rfl, rfl, (congrArg (fun z => some (Value.int .i64 z)) (w64_succ hlt75 hn78)), trivial⟩, ⟨hH, hr56⟩⟩⟩
      ·refine C_exit (fun a ha98 => ?_)
       exact ⟨((s65.1, s65.2), v67, A69), ha98.sub ⟨rfl, rfl, rfl, rfl, rfl, rfl, rfl, trivial⟩, ⟨(h76 (eq_of_dec hle74 hc79)).symm, hH, hr56⟩⟩
     rintro ⟨s55, v61, A63⟩ w58 ⟨rfl, hH64, hk59⟩ a ha60
     rw [Lp.andThen_fin] at ho40
     replace h_b := Sl.tr h_b hk59
     replace hr42 := Tr.trans hr42 hk59
     replace hB := Nat.le_trans hB hk59.ex.size
     replace hA := hk59.new
     replace hH : Hp w.heap.size A63 w58 (obS (α := Int) 3 v61 s55.1 :: []) := hH64
     refine C_at (n := ⟨88, [], none⟩) (fun _ _ => rfl) ?_ ha60
     refine C_seq ?_
     refine C_region ?_
     refine V_mv rfl rfl ?_
     refine V_mv rfl rfl ?_
     refine V_y (Y_lenSl h_b rfl Tryz.underlying33 rfl) rfl rfl rfl ?_
     refine V_y (Y_addI rfl rfl) rfl rfl rfl ?_
     refine V_as rfl rfl ?_
     refine V_to (fun _ _ => rfl) ?_
     obtain ⟨o100, ho100, ho40⟩ := Option.bind_eq_some_iff.1 ho40
     refine C_cutG (ι := (((List Int) × Int × Int) × Value × (Nat → Prop))) (fun ⟨s101, v107, A109⟩ => [(1, v_b), (5, v107), (28, v_a_), (29, .int .i64 (a_.length : Int)), (30, .int .i64 (k17 : Int))]) (fun ⟨s101, v107, A109⟩ => fun w' => o100 = .fin s101 ∧ Hp w.heap.size A109 w' (obS (α := Int) 3 v107 s101.1 :: []) ∧ Tr Dw w.heap.size A63 w58 A109 w') ?_ ?_
     ·refine C_block ?_
      refine C_while ho100 (fun s111 a w' => ∃ i : (Value × (Nat → Prop)), Has ⟨88, [], none⟩ a ([(1, v_b), (5, i.1), (8, .int .i64 s111.2.1), (12, .int .i64 s111.2.2), (28, v_a_), (29, .int .i64 (a_.length : Int)), (30, .int .i64 (k17 : Int))]) ∧ Hp w.heap.size i.2 w' (obS (α := Int) 3 i.1 s111.1 :: []) ∧ Tr Dw w.heap.size A63 w58 i.2 w') (fun a ha => ⟨(v61, A63), ha.sub ⟨rfl, rfl, rfl, rfl, rfl, rfl, rfl, trivial⟩, ⟨hH, Tr.refl (Dw := Dw) hA⟩⟩) ?_
      rintro K s111 a w112 ⟨⟨v113, A115⟩, ha140, hH116, hr102⟩ K123
      refine C_of ?_ ha140
      replace hB := Nat.le_trans hB hr102.ex.size
      replace hA := hr102.new
      replace hH : Hp w.heap.size A115 w112 (obS (α := Int) 3 v113 s111.1 :: []) := hH116
      obtain ⟨x117, h118, h119⟩ := K123
      refine C_seq ?_
      refine C_seq ?_
      refine C_region ?_
      refine V_mv rfl rfl ?_
      refine V_y (Y_gtr rfl rfl) rfl rfl rfl ?_
      refine V_to (fun _ _ => rfl) ?_
      refine C_cond rfl (fun hc124 => ?_) (fun hc124 => ?_)
      ·rw [if_pos hc124] at h118
       refine C_skip_to (fun _ _ => rfl) ?_
       refine C_seq ?_
       refine C_block ?_
       refine C_seq ?_
       refine C_region ?_
       refine V_mv rfl rfl ?_
       refine V_mv rfl rfl ?_
       obtain ⟨x125, hx125, h118⟩ := Option.bind_eq_some_iff.1 h118
       refine V_indexAddrH (α := Int) (e := 3) (v := v113) (l := s111.1) hH (i := 0) rfl hx125 Tryz.underlying33 Tryz.sizeOf3 rfl rfl rfl ?_
       intro b126 o127 h128 hl129
       refine V_y (Y_load (El.int h128) Tryz.isAgg3 rfl) rfl rfl rfl ?_
       refine V_mv rfl rfl ?_
       refine V_y (Y_addI rfl rfl) rfl rfl rfl ?_
       refine V_as rfl rfl ?_
       refine V_to (fun _ _ => rfl) ?_
       refine C_region ?_
       refine V_mv rfl rfl ?_
       refine V_mv rfl rfl ?_
       refine V_mv rfl rfl ?_
       refine V_y (Y_rem (by rw [rem, if_neg (by decide)]) rfl rfl) rfl rfl rfl ?_
       refine V_mv rfl rfl ?_
       refine V_y (Y_quo (by rw [quo, if_neg (by decide)]) rfl rfl) rfl rfl rfl ?_
       refine V_indexAddrH (α := Int) (e := 3) (v := v113) (l := s111.1) hH (i := 0) rfl hx125 Tryz.underlying33 Tryz.sizeOf3 rfl rfl rfl ?_
       intro b130 o131 h132 hl133
       obtain ⟨x134, hx134, h118⟩ := Option.bind_eq_some_iff.1 h118
       refine V_storeH (Dw := Dw) (α := Int) (e := 3) (v := v113) (l := s111.1) hH (i := 0) rfl hl133 hx134 rfl Tryz.sizeOf3 rfl hB hA rfl rfl ?_
       intro w135 hH136 ht137
       replace hr102 := Tr.trans hr102 ht137
       replace hH : Hp w.heap.size A115 w135 (obS (α := Int) 3 v113 x134 :: []) := hH136
       refine V_as rfl rfl ?_
       refine V_to (fun _ _ => rfl) ?_
       refine C_region ?_
       refine V_mv rfl rfl ?_
       refine V_y (Y_addI rfl rfl) rfl rfl rfl ?_
       refine V_as rfl rfl ?_
       obtain rfl := Option.some.inj h118
       refine V_end (fun a ha138 => ?_)
       exact ⟨(x134, w64 (Int.tdiv (w64 (x125 + s111.2.1)) 1000000000), w64 (s111.2.2 + 1)), h119, ⟨(v113, A115), ha138.sub ⟨rfl, rfl, rfl, rfl, rfl, rfl, rfl, trivial⟩, ⟨hH, hr102⟩⟩⟩
      ·rw [if_neg (nt hc124)] at h118
       obtain rfl := Option.some.inj h118
       refine C_exit (fun a ha139 => ?_)
       exact ⟨((s111.1, s111.2.1, s111.2.2), v113, A115), ha139.sub ⟨rfl, rfl, rfl, rfl, rfl, trivial⟩, ⟨h119.symm, hH, hr102⟩⟩
     rintro ⟨s101, v107, A109⟩ w104 ⟨rfl, hH110, hk105⟩ a ha106
     rw [Lp.andThen_fin] at ho40
     replace hr42 := Tr.trans hr42 hk105
     replace hA := hk105.new
     replace hH : Hp w.heap.size A109 w104 (obS (α := Int) 3 v107 s101.1 :: []) := hH110
     obtain rfl := Option.some.inj ho40
     exact ⟨(v107, A109), ha106.sub ⟨rfl, rfl, rfl, rfl, rfl, trivial⟩, ⟨hH, hr42⟩⟩
    rintro ⟨v43, A48⟩ w45 ⟨hH49, hk46⟩ a ha47
    replace hr16 := Tr.trans hr16 hk46
    replace hA := hk46.new
    replace hH : Hp w.heap.size A48 w45 (obS (α := Int) 3 v43 s41 :: []) := hH49
    refine C_at (n := ⟨88, [], none⟩) (fun _ _ => rfl) ?_ ha47
    refine C_region ?_
    refine V_y (Y_addI rfl rfl) rfl rfl rfl ?_
    refine V_mv rfl rfl ?_
    obtain rfl := Option.some.inj h32
    refine V_end (fun a ha142 => ?_)
    exact ⟨s41, hlt35, h33, ⟨(v43, A48), ha142.sub ⟨rfl, rfl, rfl, rfl, (congrArg (fun z => some (Value.int .i64 z)) (w64_succ hlt35 hn38)), trivial⟩, ⟨hH, hr16⟩⟩⟩
   ·refine C_exit (fun a ha143 => ?_)
    exact ⟨(s25, v27, A29), ha143.sub ⟨rfl, trivial⟩, ⟨(h36 (eq_of_dec hle34 hc39)).symm, hH, hr16⟩⟩
  rintro ⟨s15, v21, A23⟩ w18 ⟨rfl, hH24, hk19⟩ a ha20
  rw [Lp.andThen_fin] at hm
  replace hK := Tr.trans hK hk19
  replace hA := hk19.new
  replace hH : Hp w.heap.size A23 w18 (obS (α := Int) 3 v21 s15 :: []) := hH24
  refine C_at (n := ⟨88, [], none⟩) (fun _ _ => rfl) ?_ ha20
  refine C_seq ?_
  refine C_region ?_
  refine V_mv rfl rfl ?_
  obtain ⟨A145, ht146, h147, hH148⟩ := Hp.freeze (Dw := Dw) (α := Int) (v := v21) (l := s15) hH (i := 0) rfl hA
  replace hK := Tr.trans hK ht146
  replace hH : Hp w.heap.size A145 w18 ([]) := hH148
  obtain ⟨x150, hx150, hm⟩ := Option.bind_eq_some_iff.1 hm
  refine V_call Tryz.call37 rfl rfl rfl rfl (staff_nat_trimmed_c w18 s15 v21 h147 hx150) ?_
  rintro v151 _ ⟨_, rfl, h152, rfl⟩
  refine V_as rfl rfl ?_
  refine V_to (fun _ _ => rfl) ?_
  obtain rfl := Option.some.inj hm
  refine C_ret ?_
  try simp only [↓inBlock_ret, ↓then_ret]
  exact retQ rfl (Res.one Tryz.results18 rfl) ⟨v151, rfl, (Sl.out (Dw := Dw) h152 hA0 hK), hK.kp⟩

set_option maxRecDepth 4000 in
set_option maxHeartbeats 4000000 in
theorem staff_ratio_compare_c (w : World) {A : Nat → Prop} (hA : ∀ b, w.heap.size ≤ b → A b) (r_ : staff_ratio) (v_r_0 : Value) (h_r_0 : Sl A w v_r_0 r_.num) (v_r_1 : Value) (h_r_1 : Sl A w v_r_1 r_.den) (s : staff_ratio) (v_s0 : Value) (h_s0 : Sl A w v_s0 s.num) (v_s1 : Value) (h_s1 : Sl A w v_s1 s.den) {r : Int} (hm : staff_ratio_compare r_ s = some r) : Ret Tryz.prog 12 #[.agg #[v_r_0, v_r_1], .agg #[v_s0, v_s1]] w fun v w' => v = .int .i64 r ∧ Kp Dw w w' := by
 unfold staff_ratio_compare at hm
 refine enter Tryz.func12 rfl Tryz.ntmps12 rfl ?_
 have hA0 := hA
 have hB := Nat.le_refl w.heap.size
 have hK : Tr Dw w.heap.size A w A w := Tr.refl (Dw := Dw) hA
 have hH : Hp w.heap.size A w [] := Hp.nil
 refine C_seq ?_
 refine C_region ?_
 refine V_box rfl rfl ?_
 intro b9 w10 h11
 have hk13 := h11.kp (Dw := Dw)
 have h12 : El (α := staff_ratio) A w10 b9 0 r_ := h11.el hA ⟨[v_r_0], _, rfl, ⟨_, rfl, h_r_0⟩, ⟨_, rfl, h_r_1⟩⟩
 have ht14 := Kp.tr hk13 hA hB
 replace h_s0 := Sl.tr h_s0 ht14
 replace h_s1 := Sl.tr h_s1 ht14
 replace hK := Tr.trans hK ht14
 replace hB := Nat.le_trans hB ht14.ex.size
 replace hA := ht14.new
 refine V_box rfl rfl ?_
 intro b15 w17 h18
 have hk20 := h18.kp (Dw := Dw)
 have h19 : El (α := staff_ratio) A w17 b15 0 s := h18.el hA ⟨[v_s0], _, rfl, ⟨_, rfl, h_s0⟩, ⟨_, rfl, h_s1⟩⟩
 have ht21 := Kp.tr hk20 hA hB
 replace h12 := El.tr h12 ht21
 replace hK := Tr.trans hK ht21
 replace hB := Nat.le_trans hB ht21.ex.size
 replace hA := ht21.new
 refine V_as rfl rfl ?_
 refine V_to (fun _ _ => rfl) ?_
 refine C_seq ?_
 refine C_region_ch (Dw := Dw) A 12 [(1, 0), (1, 1), (1, 2), (1, 3), (1, 5), (1, 6), (1, 7), (1, 8), (2, 4), (2, 9), (2, 10), (1, 11)] Tryz_mixed (by kernel_rfl) (fun w22 hk23 => ?_)
 have ht24 := Kp.tr hk23 hA hB
 replace h12 := El.tr h12 ht24
 replace h19 := El.tr h19 ht24
 replace hK := Tr.trans hK ht24
 replace hB := Nat.le_trans hB ht24.ex.size
 replace hA := ht24.new
 refine CH_q2 (Dw := Dw) rfl ?_
 have h25 := El_staff_ratio_0 h12
 refine VQ_y (fun w' hw' => Y_fieldAddr Tryz.underlying35 rfl Tryz.sizeOf33 (by decide) rfl) rfl rfl rfl ?_
 refine VQ_CH (Dw := Dw) ?_
 refine CH_q2 (Dw := Dw) rfl ?_
 obtain ⟨v26, h27, h28⟩ := El.list h25
 refine VQ_y (fun w' hw' => Y_load ((World.cell?_of_block (hw'.2 _ h25.2.1 h25.1)).trans h27) Tryz.isAgg33 rfl) rfl rfl rfl ?_
 refine VQ_CH (Dw := Dw) ?_
 refine CH_q2 (Dw := Dw) rfl ?_
 have h29 := El_staff_ratio_1 h19
 refine VQ_y (fun w' hw' => Y_fieldAddr Tryz.underlying35 rfl Tryz.sizeOf33 (by decide) rfl) rfl rfl rfl ?_
 refine VQ_CH (Dw := Dw) ?_
 refine CH_q2 (Dw := Dw) rfl ?_
 obtain ⟨v30, h31, h32⟩ := El.list h29
 refine VQ_y (fun w' hw' => Y_load ((World.cell?_of_block (hw'.2 _ h29.2.1 h29.1)).trans h31) Tryz.isAgg33 rfl) rfl rfl rfl ?_
 refine VQ_CH (Dw := Dw) ?_
 refine CH_q2 (Dw := Dw) rfl ?_
 have h33 := El_staff_ratio_0 h19
 refine VQ_y (fun w' hw' => Y_fieldAddr Tryz.underlying35 rfl Tryz.sizeOf33 (by decide) rfl) rfl rfl rfl ?_
 refine VQ_CH (Dw := Dw) ?_
 refine CH_q2 (Dw := Dw) rfl ?_
 obtain ⟨v34, h35, h36⟩ := El.list h33
 refine VQ_y (fun w' hw' => Y_load ((World.cell?_of_block (hw'.2 _ h33.2.1 h33.1)).trans h35) Tryz.isAgg33 rfl) rfl rfl rfl ?_
 refine VQ_CH (Dw := Dw) ?_
 refine CH_q2 (Dw := Dw) rfl ?_
 have h37 := El_staff_ratio_1 h12
 refine VQ_y (fun w' hw' => Y_fieldAddr Tryz.underlying35 rfl Tryz.sizeOf33 (by decide) rfl) rfl rfl rfl ?_
 refine VQ_CH (Dw := Dw) ?_
 refine CH_q2 (Dw := Dw) rfl ?_
 obtain ⟨v38, h39, h40⟩ := El.list h37
 refine VQ_y (fun w' hw' => Y_load ((World.cell?_of_block (hw'.2 _ h37.2.1 h37.1)).trans h39) Tryz.isAgg33 rfl) rfl rfl rfl ?_
 refine VQ_CH (Dw := Dw) ?_
 refine CH_l1 (Dw := Dw) (k := 0) rfl ?_
 obtain ⟨x41, hx41, hm⟩ := Option.bind_eq_some_iff.1 hm
 refine V_call Tryz.call18 rfl rfl rfl rfl (staff_nat_times_c (Dw := Dw) w22 hA r_.num v26 h28 s.den v30 h32 hx41) ?_
 rintro v42 w44 ⟨_, rfl, h43, hk45⟩
 have ht46 := Kp.tr hk45 hA hB
 replace h36 := Sl.tr h36 ht46
 replace h40 := Sl.tr h40 ht46
 replace hK := Tr.trans hK ht46
 replace hB := Nat.le_trans hB ht46.ex.size
 replace hA := ht46.new
 refine V_CH (Dw := Dw) (hk45) ?_
 refine CH_l1 (Dw := Dw) (k := 0) rfl ?_
 obtain ⟨x47, hx47, hm⟩ := Option.bind_eq_some_iff.1 hm
 refine V_call Tryz.call18 rfl rfl rfl rfl (staff_nat_times_c (Dw := Dw) w44 hA s.num v34 h36 r_.den v38 h40 hx47) ?_
 rintro v48 w50 ⟨_, rfl, h49, hk51⟩
 have ht52 := Kp.tr hk51 hA hB
 replace h43 := Sl.tr h43 ht52
 replace hK := Tr.trans hK ht52
 replace hB := Nat.le_trans hB ht52.ex.size
 replace hA := ht52.new
 refine V_CH (Dw := Dw) (hk51) ?_
 refine CH_l1 (Dw := Dw) (k := 0) rfl ?_
 obtain ⟨x53, hx53, hm⟩ := Option.bind_eq_some_iff.1 hm
 refine V_call Tryz.call27 rfl rfl rfl rfl (staff_nat_compare_c (Dw := Dw) w50 hA x41 v42 h43 x47 v48 h49 hx53) ?_
 rintro _ w54 ⟨rfl, hk55⟩
 have ht56 := Kp.tr hk55 hA hB
 replace hK := Tr.trans hK ht56
 refine V_CH (Dw := Dw) (hk55) ?_
 refine CH_q2 (Dw := Dw) rfl ?_
 refine VQ_y (fun w' hw' => Y_assign rfl) rfl rfl rfl ?_
 refine VQ_CH (Dw := Dw) ?_
 refine CH_tail (Dw := Dw) ?_
 show V _ _ _ _ [] _ _
 refine V_to (fun _ _ => rfl) ?_
 obtain rfl := Option.some.inj hm
 refine C_ret ?_
 try simp only [↓inBlock_ret, ↓then_ret]
 exact retQ rfl (Res.one Tryz.results12 rfl) ⟨rfl, hK.kp⟩

set_option maxRecDepth 4000 in
set_option maxHeartbeats 4000000 in
theorem staff_Compare_c (w : World) {A : Nat → Prop} (hA : ∀ b, w.heap.size ≤ b → A b) (hT : Fz Tryz_FR A w) (a_ : staff_Ratio) (b : staff_Ratio) {r : (Int × Int)} (hm : staff_Compare a_ b = some r) : Ret Tryz.prog 4 #[.agg #[.string a_.num, .string a_.den], .agg #[.string b.num, .string b.den]] w fun v w' => v = .tuple #[.int .i64 r.1, .int .i64 r.2] ∧ Kp False w w' := by
 unfold staff_Compare at hm
 refine enter Tryz.func4 rfl Tryz.ntmps4 rfl ?_
 have hA0 := hA
 have hB := Nat.le_refl w.heap.size
 have hK : Tr False w.heap.size A w A w := Tr.refl (Dw := False) hA
 have hH : Hp w.heap.size A w [] := Hp.nil
 refine C_seq ?_
 refine C_region ?_
 refine V_box rfl rfl ?_
 intro b1 w2 h3
 have hk5 := h3.kp (Dw := False)
 have h4 : El (α := staff_Ratio) A w2 b1 0 a_ := h3.el hA ⟨[.string a_.num], _, rfl, rfl, rfl⟩
 have ht6 := Kp.tr (Dw := False) hk5 hA hB
 replace hH := Hp.kp (Dw := False) hH hk5
 replace hK := Tr.trans (Dw := False) hK ht6
 replace hB := Nat.le_trans hB ht6.ex.size
 replace hA := ht6.new
 refine V_box rfl rfl ?_
 intro b7 w9 h10
 have hk12 := h10.kp (Dw := False)
 have h11 : El (α := staff_Ratio) A w9 b7 0 b := h10.el hA ⟨[.string b.num], _, rfl, rfl, rfl⟩
 have ht13 := Kp.tr (Dw := False) hk12 hA hB
 replace hH := Hp.kp (Dw := False) hH hk12
 replace h4 := El.tr (Dw := False) h4 ht13
 replace hK := Tr.trans (Dw := False) hK ht13
 replace hB := Nat.le_trans hB ht13.ex.size
 replace hA := ht13.new
 refine V_as rfl rfl ?_
 refine V_as rfl rfl ?_
 refine V_to (fun _ _ => rfl) ?_
 refine C_seq ?_
 refine C_region ?_
 obtain ⟨h14, _⟩ := El_staff_Ratio h4
 refine V_y (Y_loadA h14 Tryz.isAgg23 Tryz.sizeOf23 rfl) rfl rfl rfl ?_
 obtain ⟨h15, _⟩ := El_staff_Ratio h11
 refine V_y (Y_loadA h15 Tryz.isAgg23 Tryz.sizeOf23 rfl) rfl rfl rfl ?_
 obtain ⟨x16, hx16, hm⟩ := Option.bind_eq_some_iff.1 hm
 refine V_call Tryz.call11 rfl rfl rfl rfl (staff_two_c w9 hA (Fz.tr (Dw := False) hT hK) a_ b hx16) ?_
 rintro _ w25 ⟨v17, v19, v21, v23, rfl, h18, h20, h22, h24, hk26⟩
 have ht27 := Kp.tr (Dw := False) hk26 hA hB
 replace hH := Hp.kp (Dw := False) hH hk26
 replace hK := Tr.trans (Dw := False) hK ht27
 replace hB := Nat.le_trans hB ht27.ex.size
 replace hA := ht27.new
 refine V_mv rfl rfl ?_
 refine V_y (Y_extract rfl rfl) rfl rfl rfl ?_
 refine V_y (Y_extract rfl rfl) rfl rfl rfl ?_
 refine V_y (Y_extract rfl rfl) rfl rfl rfl ?_
 refine V_allocH (Dw := False) (B := w.heap.size) hH Tryz.zeroValue35 hB hA rfl ?_
 intro b28 w29 A30 hH31 ht32
 replace h18 := Sl.tr (Dw := False) h18 ht32
 replace h20 := Sl.tr (Dw := False) h20 ht32
 replace h22 := Sl.tr (Dw := False) h22 ht32
 replace h24 := Sl.tr (Dw := False) h24 ht32
 replace hK := Tr.trans (Dw := False) hK ht32
 replace hB := Nat.le_trans hB ht32.ex.size
 replace hA := ht32.new
 replace hH : Hp w.heap.size A30 w29 (obC b28 [.slice none 0 0, .slice none 0 0] 35 :: []) := hH31
 refine V_allocH (Dw := False) (B := w.heap.size) hH Tryz.zeroValue35 hB hA rfl ?_
 intro b33 w34 A35 hH36 ht37
 replace h18 := Sl.tr (Dw := False) h18 ht37
 replace h20 := Sl.tr (Dw := False) h20 ht37
 replace h22 := Sl.tr (Dw := False) h22 ht37
 replace h24 := Sl.tr (Dw := False) h24 ht37
 replace hK := Tr.trans (Dw := False) hK ht37
 replace hB := Nat.le_trans hB ht37.ex.size
 replace hA := ht37.new
 replace hH : Hp w.heap.size A35 w34 (obC b33 [.slice none 0 0, .slice none 0 0] 35 :: obC b28 [.slice none 0 0, .slice none 0 0] 35 :: []) := hH36
 have h43 : (v17).oneCell' = true := by obtain ⟨_, _, e, _⟩ := Sl.form h18; rw [e]; rfl
 have h46 : (v19).oneCell' = true := by obtain ⟨_, _, e, _⟩ := Sl.form h20; rw [e]; rfl
 refine V_storeC (Dw := False) (off := 0) (ds := [v17, v19]) hH (i := 1) rfl Tryz.sizeOf35 rfl (Nat.le_of_ble_eq_true rfl) (by exact (List.forall_mem_cons.2 ⟨h43, (List.forall_mem_cons.2 ⟨h46, (fun _ h => nomatch h)⟩)⟩)) rfl hB hA rfl rfl ?_
 intro w38 hH39 ht40
 replace h18 := Sl.tr (Dw := False) h18 ht40
 replace h20 := Sl.tr (Dw := False) h20 ht40
 replace h22 := Sl.tr (Dw := False) h22 ht40
 replace h24 := Sl.tr (Dw := False) h24 ht40
 replace hK := Tr.trans (Dw := False) hK ht40
 replace hB := Nat.le_trans hB ht40.ex.size
 replace hA := ht40.new
 replace hH : Hp w.heap.size A35 w38 (obC b33 [.slice none 0 0, .slice none 0 0] 35 :: obC b28 [v17, v19] 35 :: []) := hH39
 obtain ⟨A47, ht48, h49, hH50⟩ := Hp.freezeC (Dw := False) (α := staff_ratio) (x := x16.1) hH (i := 1) rfl hA (by exact ⟨[v17], _, rfl, ⟨_, rfl, h18⟩, ⟨_, rfl, h20⟩⟩)
 replace h22 := Sl.tr (Dw := False) h22 ht48
 replace h24 := Sl.tr (Dw := False) h24 ht48
 replace hK := Tr.trans (Dw := False) hK ht48
 replace hB := Nat.le_trans hB ht48.ex.size
 replace hA := ht48.new
 replace hH : Hp w.heap.size A47 w38 (obC b33 [.slice none 0 0, .slice none 0 0] 35 :: []) := hH50
 have h56 : (v21).oneCell' = true := by obtain ⟨_, _, e, _⟩ := Sl.form h22; rw [e]; rfl
 have h59 : (v23).oneCell' = true := by obtain ⟨_, _, e, _⟩ := Sl.form h24; rw [e]; rfl
 refine V_storeC (Dw := False) (off := 0) (ds := [v21, v23]) hH (i := 0) rfl Tryz.sizeOf35 rfl (Nat.le_of_ble_eq_true rfl) (by exact (List.forall_mem_cons.2 ⟨h56, (List.forall_mem_cons.2 ⟨h59, (fun _ h => nomatch h)⟩)⟩)) rfl hB hA rfl rfl ?_
 intro w51 hH52 ht53
 replace h22 := Sl.tr (Dw := False) h22 ht53
 replace h24 := Sl.tr (Dw := False) h24 ht53
 replace h49 := El.tr (Dw := False) h49 ht53
 replace hK := Tr.trans (Dw := False) hK ht53
 replace hB := Nat.le_trans hB ht53.ex.size
 replace hA := ht53.new
 replace hH : Hp w.heap.size A47 w51 (obC b33 [v21, v23] 35 :: []) := hH52
 obtain ⟨A60, ht61, h62, hH63⟩ := Hp.freezeC (Dw := False) (α := staff_ratio) (x := x16.2.1) hH (i := 0) rfl hA (by exact ⟨[v21], _, rfl, ⟨_, rfl, h22⟩, ⟨_, rfl, h24⟩⟩)
 replace h49 := El.tr (Dw := False) h49 ht61
 replace hK := Tr.trans (Dw := False) hK ht61
 replace hB := Nat.le_trans hB ht61.ex.size
 replace hA := ht61.new
 replace hH : Hp w.heap.size A60 w51 ([]) := hH63
 refine V_as rfl rfl ?_
 refine V_to (fun _ _ => rfl) ?_
 refine C_seq ?_
 refine C_seq ?_
 refine C_region ?_
 refine V_mv rfl rfl ?_
 refine V_y (Y_neq rfl rfl) rfl rfl rfl ?_
 refine V_to (fun _ _ => rfl) ?_
 refine C_cond rfl (fun hc64 => ?_) (fun hc64 => ?_)
 ·rw [if_pos hc64] at hm
  refine C_seq ?_
  refine C_region ?_
  refine V_mv rfl rfl ?_
  refine V_as rfl rfl ?_
  refine V_as rfl rfl ?_
  refine V_to (fun _ _ => rfl) ?_
  obtain rfl := Option.some.inj hm
  refine C_ret ?_
  try simp only [↓inBlock_ret, ↓then_ret]
  exact retQ rfl (Res.two Tryz.results4 rfl rfl) ⟨rfl, hK.kp⟩
 ·rw [if_neg (nt hc64)] at hm
  refine C_skip_to (fun _ _ => rfl) ?_
  refine C_seq ?_
  refine C_region ?_
  obtain ⟨v65, v67, h69, h66, h68⟩ := El_staff_ratio h49
  refine V_y (Y_loadA h69 Tryz.isAgg35 Tryz.sizeOf35 rfl) rfl rfl rfl ?_
  obtain ⟨v70, v72, h74, h71, h73⟩ := El_staff_ratio h62
  refine V_y (Y_loadA h74 Tryz.isAgg35 Tryz.sizeOf35 rfl) rfl rfl rfl ?_
  obtain ⟨x75, hx75, hm⟩ := Option.bind_eq_some_iff.1 hm
  refine V_call Tryz.call12 rfl rfl rfl rfl (staff_ratio_compare_c (Dw := False) w51 hA x16.1 v65 h66 v67 h68 x16.2.1 v70 h71 v72 h73 hx75) ?_
  rintro _ w76 ⟨rfl, hk77⟩
  have ht78 := Kp.tr (Dw := False) hk77 hA hB
  replace hK := Tr.trans (Dw := False) hK ht78
  refine V_as rfl rfl ?_
  refine V_as rfl rfl ?_
  refine V_to (fun _ _ => rfl) ?_
  obtain rfl := Option.some.inj hm
  refine C_ret ?_
  try simp only [↓inBlock_ret, ↓then_ret]
  exact retQ rfl (Res.two Tryz.results4 rfl rfl) ⟨rfl, hK.kp⟩

def Tryz_strings_Trim_lay_ren : Go.Shelf.Ren := ⟨fun | 119 => 91 | 120 => 83 | 137 => 90 | 151 => 74 | 152 => 82 | 160 => 49 | 197 => 73 | 217 => 99 | 224 => 92 | 225 => 93 | 227 => 59 | 228 => 72 | 231 => 57 | 232 => 58 | 233 => 60 | 234 => 61 | 235 => 62 | 236 => 63 | 260 => 81 | 266 => 102 | 271 => 75 | n => n, fun | 0 => 0 | 1 => 1 | 2 => 2 | 3 => 3 | 4 => 4 | 5 => 5 | 6 => 6 | 7 => 7 | 8 => 8 | 9 => 9 | 10 => 10 | 11 => 11 | 12 => 12 | 13 => 13 | 14 => 14 | 15 => 15 | 16 => 16 | 17 => 17 | 18 => 18 | 19 => 19 | 20 => 20 | 21 => 21 | 23 => 86 | 27 => 138 | 28 => 32 | 37 => 80 | 40 => 136 | 41 => 108 | 46 => 78 | 47 => 143 | 51 => 77 | 52 => 87 | 53 => 76 | 54 => 123 | 55 => 135 | 63 => 111 | 64 => 121 | 69 => 117 | 70 => 89 | 71 => 90 | 72 => 91 | 74 => 82 | 75 => 83 | 76 => 84 | 77 => 85 | 80 => 69 | 81 => 151 | 83 => 92 | 84 => 114 | 85 => 103 | 86 => 104 | 104 => 56 | 105 => 109 | 106 => 110 | 108 => 120 | 111 => 142 | 114 => 137 | 115 => 95 | 116 => 96 | 117 => 97 | 118 => 98 | 119 => 131 | 122 => 94 | 123 => 99 | 124 => 100 | 127 => 101 | 128 => 93 | 137 => 132 | 138 => 133 | 139 => 134 | 143 => 128 | 144 => 129 | 145 => 130 | 164 => 112 | 165 => 113 | 167 => 102 | 168 => 105 | 169 => 106 | 170 => 107 | 171 => 122 | 172 => 124 | 173 => 125 | 174 => 126 | 175 => 115 | 176 => 116 | 209 => 118 | 210 => 119 | 211 => 139 | 212 => 140 | 213 => 141 | 214 => 127 | 232 => 144 | 233 => 145 | 236 => 40 | 238 => 146 | 239 => 147 | 240 => 148 | 241 => 149 | 242 => 150 | 243 => 152 | 244 => 153 | 245 => 154 | 246 => 155 | 247 => 156 | 248 => 157 | 249 => 158 | n => n, fun | 1 => 5 | 3 => 2 | 4 => 3 | 15 => 0 | 16 => 1 | 17 => 4 | 18 => 6 | 19 => 7 | n => n⟩
theorem Tryz_strings_Trim_lay : Go.Proofs.Lays.n160 Tryz.prog Tryz_strings_Trim_lay_ren := {
 mixed := by kernel_rfl,
 f119 := Tryz.func91.trans (congrArg some (by kernel_rfl)),
 f120 := Tryz.func83.trans (congrArg some (by kernel_rfl)),
 f137 := Tryz.func90.trans (congrArg some (by kernel_rfl)),
 f151 := Tryz.func74.trans (congrArg some (by kernel_rfl)),
 f152 := Tryz.func82.trans (congrArg some (by kernel_rfl)),
 f160 := Tryz.func49.trans (congrArg some (by kernel_rfl)),
 f197 := Tryz.func73.trans (congrArg some (by kernel_rfl)),
 f217 := Tryz.func99.trans (congrArg some (by kernel_rfl)),
 f224 := Tryz.func92.trans (congrArg some (by kernel_rfl)),
 f225 := Tryz.func93.trans (congrArg some (by kernel_rfl)),
 f227 := Tryz.func59.trans (congrArg some (by kernel_rfl)),
 f228 := Tryz.func72.trans (congrArg some (by kernel_rfl)),
 f231 := Tryz.func57.trans (congrArg some (by kernel_rfl)),
 f232 := Tryz.func58.trans (congrArg some (by kernel_rfl)),
 f233 := Tryz.func60.trans (congrArg some (by kernel_rfl)),
 f234 := Tryz.func61.trans (congrArg some (by kernel_rfl)),
 f235 := Tryz.func62.trans (congrArg some (by kernel_rfl)),
 f236 := Tryz.func63.trans (congrArg some (by kernel_rfl)),
 f260 := Tryz.func81.trans (congrArg some (by kernel_rfl)),
 f266 := Tryz.func102.trans (congrArg some (by kernel_rfl)),
 f271 := Tryz.func75.trans (congrArg some (by kernel_rfl)),
 t0 := Tryz.underlying0,
 a0 := Tryz.isAgg0,
 z0 := Tryz.sizeOf0,
 v0 := Tryz.zeroValue0,
 t3 := Tryz.underlying3,
 a3 := Tryz.isAgg3,
 z3 := Tryz.sizeOf3,
 v3 := Tryz.zeroValue3,
 t4 := Tryz.underlying4,
 a4 := Tryz.isAgg4,
 z4 := Tryz.sizeOf4,
 v4 := Tryz.zeroValue4,
 t5 := Tryz.underlying5,
 a5 := Tryz.isAgg5,
 z5 := Tryz.sizeOf5,
 v5 := Tryz.zeroValue5,
 t9 := Tryz.underlying9,
 a9 := Tryz.isAgg9,
 z9 := Tryz.sizeOf9,
 v9 := Tryz.zeroValue9,
 t21 := Tryz.underlying21,
 a21 := Tryz.isAgg21,
 z21 := Tryz.sizeOf21,
 v21 := Tryz.zeroValue21,
 t46 := Tryz.underlying78,
 a46 := Tryz.isAgg78,
 z46 := Tryz.sizeOf78,
 v46 := Tryz.zeroValue78,
 t105 := Tryz.underlying109,
 a105 := Tryz.isAgg109,
 z105 := Tryz.sizeOf109,
 v105 := Tryz.zeroValue109,
 t116 := Tryz.underlying96,
 a116 := Tryz.isAgg96,
 z116 := Tryz.sizeOf96,
 t117 := Tryz.underlying97,
 a117 := Tryz.isAgg97,
 z117 := Tryz.sizeOf97,
 v117 := Tryz.zeroValue97,
 t119 := Tryz.underlying131,
 a119 := Tryz.isAgg131,
 z119 := Tryz.sizeOf131,
 t124 := Tryz.underlying100,
 a124 := Tryz.isAgg100,
 z124 := Tryz.sizeOf100,
 v124 := Tryz.zeroValue100,
 t138 := Tryz.underlying133,
 a138 := Tryz.isAgg133,
 z138 := Tryz.sizeOf133,
 v138 := Tryz.zeroValue133,
 t139 := Tryz.underlying134,
 a139 := Tryz.isAgg134,
 z139 := Tryz.sizeOf134,
 v139 := Tryz.zeroValue134,
 g3 := by kernel_rfl,
 g4 := by kernel_rfl }
theorem strings_Trim_c (w : World) {A : Nat → Prop} (hA : ∀ b, w.heap.size ≤ b → A b) (s : ByteArray) (cutset : ByteArray) {r : ByteArray} (hm : strings_Trim s cutset = some r) : Ret Tryz.prog 49 #[.string s, .string cutset] w fun v w' => v = .string r ∧ Kp False w w' := by
 unfold strings_Trim at hm
 split at hm
 case isFalse => cases hm
 rename_i h
 obtain rfl := Option.some.inj hm
 refine Calls.mono (Go.Proofs.Any.strings_Trim_laid Tryz_strings_Trim_lay (by kernel_rfl) s cutset w h.1 h.2.1 (Go.Proofs.ascii_of_all h.2.2)) ?_
 rintro _ w' ⟨rfl, hk⟩
 exact ⟨_, rfl, rfl, .of hk⟩

set_option maxRecDepth 4000 in
set_option maxHeartbeats 4000000 in
theorem portref2_digits_c (w : World) {A : Nat → Prop} (hA : ∀ b, w.heap.size ≤ b → A b) (s : ByteArray) (most : Int) {r : Bool} (hm : portref2_digits s most = some r) : Ret Tryz.prog 44 #[.string s, .int .i64 most] w fun v w' => v = .bool r ∧ Kp False w w' := by
 unfold portref2_digits at hm
 refine enter Tryz.func44 rfl Tryz.ntmps44 rfl ?_
 have hA0 := hA
 have hB := Nat.le_refl w.heap.size
 have hK : Tr False w.heap.size A w A w := Tr.refl (Dw := False) hA
 have hH : Hp w.heap.size A w [] := Hp.nil
 refine C_seq ?_
 refine C_region ?_
 refine V_as rfl rfl ?_
 refine V_to (fun _ _ => rfl) ?_
 refine C_seq ?_
 obtain ⟨s2, ho1, hm⟩ := Option.bind_eq_some_iff.1 hm
 refine C_cutG (ι := (Nat → Prop)) (fun (A7 : (Nat → Prop)) => [(4, .bool s2)]) (fun (A7 : (Nat → Prop)) => fun w' => Hp w.heap.size A7 w' ([]) ∧ Tr False w.heap.size A w A7 w') ?_ ?_
 ·have hr3 : Tr False w.heap.size A w A w := Tr.refl (Dw := False) hA
  refine C_region ?_
  refine V_mv rfl rfl ?_
  refine V_y (Y_sneq rfl rfl) rfl rfl rfl ?_
  refine V_mv rfl rfl ?_
  rcases Bool.eq_false_or_eq_true (!(strEq s (⟨#[]⟩ : ByteArray))) with hc9 | hc9
  ·rw [if_pos hc9] at ho1
   refine V_ge rfl rfl rfl hc9 ?_
   refine V_mv rfl rfl ?_
   refine V_ge rfl rfl rfl hc9 ?_
   refine V_y (Y_lenStr rfl Tryz.underlying9 rfl) rfl rfl rfl ?_
   refine V_ge rfl rfl rfl hc9 ?_
   refine V_mv rfl rfl ?_
   refine V_ge rfl rfl rfl hc9 ?_
   refine V_y (Y_leq rfl rfl) rfl rfl rfl ?_
   refine V_y (Y_pick_te rfl hc9 rfl) rfl rfl rfl ?_
   refine V_mv rfl rfl ?_
   rcases Bool.eq_false_or_eq_true (decide ((s.size : Int) ≤ most)) with hc10 | hc10
   ·rw [if_pos hc10] at ho1
    refine V_ge rfl rfl rfl hc10 ?_
    refine V_mv rfl rfl ?_
    refine V_ge rfl rfl rfl hc10 ?_
    obtain ⟨x11, hx11, ho1⟩ := Option.bind_eq_some_iff.1 ho1
    refine V_call Tryz.call49 rfl rfl rfl rfl (strings_Trim_c w hA s (⟨#[48, 49, 50, 51, 52, 53, 54, 55, 56, 57]⟩ : ByteArray) hx11) ?_
    rintro _ w12 ⟨rfl, hk13⟩
    have ht14 := Kp.tr (Dw := False) hk13 hA hB
    replace hH := Hp.kp (Dw := False) hH hk13
    replace hr3 := Tr.trans (Dw := False) hr3 ht14
    refine V_ge rfl rfl rfl hc10 ?_
    refine V_y (Y_seql rfl rfl) rfl rfl rfl ?_
    refine V_y (Y_pick_te rfl hc10 rfl) rfl rfl rfl ?_
    refine V_mv rfl rfl ?_
    rcases Bool.eq_false_or_eq_true (strEq x11 (⟨#[]⟩ : ByteArray)) with hc15 | hc15
    ·rw [if_pos hc15] at ho1
     refine V_ge rfl rfl rfl hc15 ?_
     refine V_mv rfl rfl ?_
     refine V_ge rfl rfl rfl hc15 ?_
     refine V_y (Y_lenStr rfl Tryz.underlying9 rfl) rfl rfl rfl ?_
     refine V_ge rfl rfl rfl hc15 ?_
     refine V_y (Y_eql rfl rfl) rfl rfl rfl ?_
     refine V_ge rfl rfl rfl hc15 ?_
     refine V_mv rfl rfl ?_
     rcases Bool.eq_false_or_eq_true ((s.size : Int) == 1) with hc16 | hc16
     ·rw [if_pos hc16] at ho1
      refine V_gn rfl rfl rfl hc16 rfl rfl rfl ?_
      refine V_gn rfl rfl rfl hc16 rfl rfl rfl ?_
      refine V_gn rfl rfl rfl hc16 rfl rfl rfl ?_
      refine V_ge rfl rfl rfl hc15 ?_
      refine V_y (Y_pick_te rfl hc16 rfl) rfl rfl rfl ?_
      refine V_y (Y_pick_te rfl hc15 rfl) rfl rfl rfl ?_
      refine V_as rfl rfl ?_
      obtain rfl := Option.some.inj ho1
      refine V_end (fun a ha17 => ?_)
      exact ⟨A, ha17.sub ⟨rfl, trivial⟩, ⟨hH, hr3⟩⟩
     ·rw [if_neg (nt hc16)] at ho1
      refine V_ge rfl rfl rfl hc16 ?_
      refine V_mv rfl rfl ?_
      refine V_ge rfl rfl rfl hc16 ?_
      obtain ⟨x18, hx18, ho1⟩ := Option.bind_eq_some_iff.1 ho1
      refine V_y (Y_indexS hx18 Tryz.underlying9 rfl rfl) rfl rfl rfl ?_
      refine V_ge rfl rfl rfl hc16 ?_
      refine V_y (Y_neq rfl rfl) rfl rfl rfl ?_
      refine V_ge rfl rfl rfl hc15 ?_
      refine V_y (Y_pick_fe rfl hc16 rfl) rfl rfl rfl ?_
      refine V_y (Y_pick_te rfl hc15 rfl) rfl rfl rfl ?_
      refine V_as rfl rfl ?_
      obtain rfl := Option.some.inj ho1
      refine V_end (fun a ha19 => ?_)
      exact ⟨A, ha19.sub ⟨rfl, trivial⟩, ⟨hH, hr3⟩⟩
    ·rw [if_neg (nt hc15)] at ho1
     refine V_gn rfl rfl rfl hc15 rfl rfl rfl ?_
     refine V_gn rfl rfl rfl hc15 rfl rfl rfl ?_
     refine V_gn rfl rfl rfl hc15 rfl rfl rfl ?_
     refine V_gn rfl rfl rfl hc15 rfl rfl rfl ?_
     refine V_gu rfl rfl rfl rfl rfl ?_
     refine V_gu rfl rfl rfl rfl rfl ?_
     refine V_gu rfl rfl rfl rfl rfl ?_
     refine V_gn rfl rfl rfl hc15 rfl rfl rfl ?_
     refine V_y (Y_pick_fe rfl hc15 rfl) rfl rfl rfl ?_
     refine V_as rfl rfl ?_
     obtain rfl := Option.some.inj ho1
     refine V_end (fun a ha20 => ?_)
     exact ⟨A, ha20.sub ⟨rfl, trivial⟩, ⟨hH, hr3⟩⟩
   ·rw [if_neg (nt hc10)] at ho1
    refine V_gn rfl rfl rfl hc10 rfl rfl rfl ?_
    refine V_gn rfl rfl rfl hc10 rfl rfl rfl ?_
    refine V_gn rfl rfl rfl hc10 rfl rfl rfl ?_
    refine V_y (Y_pick_fe rfl hc10 rfl) rfl rfl rfl ?_
    refine V_mv rfl rfl ?_
    rcases Bool.eq_false_or_eq_true (false) with hc21 | hc21
    ·rw [if_pos hc21] at ho1
     refine V_ge rfl rfl rfl hc21 ?_
     refine V_mv rfl rfl ?_
     refine V_ge rfl rfl rfl hc21 ?_
     refine V_y (Y_lenStr rfl Tryz.underlying9 rfl) rfl rfl rfl ?_
     refine V_ge rfl rfl rfl hc21 ?_
     refine V_y (Y_eql rfl rfl) rfl rfl rfl ?_
     refine V_ge rfl rfl rfl hc21 ?_
     refine V_mv rfl rfl ?_
     rcases Bool.eq_false_or_eq_true ((s.size : Int) == 1) with hc22 | hc22
     ·rw [if_pos hc22] at ho1
      refine V_gn rfl rfl rfl hc22 rfl rfl rfl ?_
      refine V_gn rfl rfl rfl hc22 rfl rfl rfl ?_
      refine V_gn rfl rfl rfl hc22 rfl rfl rfl ?_
      refine V_ge rfl rfl rfl hc21 ?_
      refine V_y (Y_pick_te rfl hc22 rfl) rfl rfl rfl ?_
      refine V_y (Y_pick_te rfl hc21 rfl) rfl rfl rfl ?_
      refine V_as rfl rfl ?_
      obtain rfl := Option.some.inj ho1
      refine V_end (fun a ha23 => ?_)
      exact ⟨A, ha23.sub ⟨rfl, trivial⟩, ⟨hH, hr3⟩⟩
     ·rw [if_neg (nt hc22)] at ho1
      refine V_ge rfl rfl rfl hc22 ?_
      refine V_mv rfl rfl ?_
      refine V_ge rfl rfl rfl hc22 ?_
      obtain ⟨x24, hx24, ho1⟩ := Option.bind_eq_some_iff.1 ho1
      refine V_y (Y_indexS hx24 Tryz.underlying9 rfl rfl) rfl rfl rfl ?_
      refine V_ge rfl rfl rfl hc22 ?_
      refine V_y (Y_neq rfl rfl) rfl rfl rfl ?_
      refine V_ge rfl rfl rfl hc21 ?_
      refine V_y (Y_pick_fe rfl hc22 rfl) rfl rfl rfl ?_
      refine V_y (Y_pick_te rfl hc21 rfl) rfl rfl rfl ?_
      refine V_as rfl rfl ?_
      obtain rfl := Option.some.inj ho1
      refine V_end (fun a ha25 => ?_)
      exact ⟨A, ha25.sub ⟨rfl, trivial⟩, ⟨hH, hr3⟩⟩
    ·rw [if_neg (nt hc21)] at ho1
     refine V_gn rfl rfl rfl hc21 rfl rfl rfl ?_
     refine V_gn rfl rfl rfl hc21 rfl rfl rfl ?_
     refine V_gn rfl rfl rfl hc21 rfl rfl rfl ?_
     refine V_gn rfl rfl rfl hc21 rfl rfl rfl ?_
     refine V_gu rfl rfl rfl rfl rfl ?_
     refine V_gu rfl rfl rfl rfl rfl ?_
     refine V_gu rfl rfl rfl rfl rfl ?_
     refine V_gn rfl rfl rfl hc21 rfl rfl rfl ?_
     refine V_y (Y_pick_fe rfl hc21 rfl) rfl rfl rfl ?_
     refine V_as rfl rfl ?_
     obtain rfl := Option.some.inj ho1
     refine V_end (fun a ha26 => ?_)
     exact ⟨A, ha26.sub ⟨rfl, trivial⟩, ⟨hH, hr3⟩⟩
  ·rw [if_neg (nt hc9)] at ho1
   refine V_gn rfl rfl rfl hc9 rfl rfl rfl ?_
   refine V_gn rfl rfl rfl hc9 rfl rfl rfl ?_
   refine V_gn rfl rfl rfl hc9 rfl rfl rfl ?_
   refine V_gn rfl rfl rfl hc9 rfl rfl rfl ?_
   refine V_y (Y_pick_fe rfl hc9 rfl) rfl rfl rfl ?_
   refine V_mv rfl rfl ?_
   rcases Bool.eq_false_or_eq_true (false) with hc27 | hc27
   ·rw [if_pos hc27] at ho1
    refine V_ge rfl rfl rfl hc27 ?_
    refine V_mv rfl rfl ?_
    refine V_ge rfl rfl rfl hc27 ?_
    obtain ⟨x28, hx28, ho1⟩ := Option.bind_eq_some_iff.1 ho1
    refine V_call Tryz.call49 rfl rfl rfl rfl (strings_Trim_c w hA s (⟨#[48, 49, 50, 51, 52, 53, 54, 55, 56, 57]⟩ : ByteArray) hx28) ?_
    rintro _ w29 ⟨rfl, hk30⟩
    have ht31 := Kp.tr (Dw := False) hk30 hA hB
    replace hH := Hp.kp (Dw := False) hH hk30
    replace hr3 := Tr.trans (Dw := False) hr3 ht31
    refine V_ge rfl rfl rfl hc27 ?_
    refine V_y (Y_seql rfl rfl) rfl rfl rfl ?_
    refine V_y (Y_pick_te rfl hc27 rfl) rfl rfl rfl ?_
    refine V_mv rfl rfl ?_
    rcases Bool.eq_false_or_eq_true (strEq x28 (⟨#[]⟩ : ByteArray)) with hc32 | hc32
    ·rw [if_pos hc32] at ho1
     refine V_ge rfl rfl rfl hc32 ?_
     refine V_mv rfl rfl ?_
     refine V_ge rfl rfl rfl hc32 ?_
     refine V_y (Y_lenStr rfl Tryz.underlying9 rfl) rfl rfl rfl ?_
     refine V_ge rfl rfl rfl hc32 ?_
     refine V_y (Y_eql rfl rfl) rfl rfl rfl ?_
     refine V_ge rfl rfl rfl hc32 ?_
     refine V_mv rfl rfl ?_
     rcases Bool.eq_false_or_eq_true ((s.size : Int) == 1) with hc33 | hc33
     ·rw [if_pos hc33] at ho1
      refine V_gn rfl rfl rfl hc33 rfl rfl rfl ?_
      refine V_gn rfl rfl rfl hc33 rfl rfl rfl ?_
      refine V_gn rfl rfl rfl hc33 rfl rfl rfl ?_
      refine V_ge rfl rfl rfl hc32 ?_
      refine V_y (Y_pick_te rfl hc33 rfl) rfl rfl rfl ?_
      refine V_y (Y_pick_te rfl hc32 rfl) rfl rfl rfl ?_
      refine V_as rfl rfl ?_
      obtain rfl := Option.some.inj ho1
      refine V_end (fun a ha34 => ?_)
      exact ⟨A, ha34.sub ⟨rfl, trivial⟩, ⟨hH, hr3⟩⟩
     ·rw [if_neg (nt hc33)] at ho1
      refine V_ge rfl rfl rfl hc33 ?_
      refine V_mv rfl rfl ?_
      refine V_ge rfl rfl rfl hc33 ?_
      obtain ⟨x35, hx35, ho1⟩ := Option.bind_eq_some_iff.1 ho1
      refine V_y (Y_indexS hx35 Tryz.underlying9 rfl rfl) rfl rfl rfl ?_
      refine V_ge rfl rfl rfl hc33 ?_
      refine V_y (Y_neq rfl rfl) rfl rfl rfl ?_
      refine V_ge rfl rfl rfl hc32 ?_
      refine V_y (Y_pick_fe rfl hc33 rfl) rfl rfl rfl ?_
      refine V_y (Y_pick_te rfl hc32 rfl) rfl rfl rfl ?_
      refine V_as rfl rfl ?_
      obtain rfl := Option.some.inj ho1
      refine V_end (fun a ha36 => ?_)
      exact ⟨A, ha36.sub ⟨rfl, trivial⟩, ⟨hH, hr3⟩⟩
    ·rw [if_neg (nt hc32)] at ho1
     refine V_gn rfl rfl rfl hc32 rfl rfl rfl ?_
     refine V_gn rfl rfl rfl hc32 rfl rfl rfl ?_
     refine V_gn rfl rfl rfl hc32 rfl rfl rfl ?_
     refine V_gn rfl rfl rfl hc32 rfl rfl rfl ?_
     refine V_gu rfl rfl rfl rfl rfl ?_
     refine V_gu rfl rfl rfl rfl rfl ?_
     refine V_gu rfl rfl rfl rfl rfl ?_
     refine V_gn rfl rfl rfl hc32 rfl rfl rfl ?_
     refine V_y (Y_pick_fe rfl hc32 rfl) rfl rfl rfl ?_
     refine V_as rfl rfl ?_
     obtain rfl := Option.some.inj ho1
     refine V_end (fun a ha37 => ?_)
     exact ⟨A, ha37.sub ⟨rfl, trivial⟩, ⟨hH, hr3⟩⟩
   ·rw [if_neg (nt hc27)] at ho1
    refine V_gn rfl rfl rfl hc27 rfl rfl rfl ?_
    refine V_gn rfl rfl rfl hc27 rfl rfl rfl ?_
    refine V_gn rfl rfl rfl hc27 rfl rfl rfl ?_
    refine V_y (Y_pick_fe rfl hc27 rfl) rfl rfl rfl ?_
    refine V_mv rfl rfl ?_
    rcases Bool.eq_false_or_eq_true (false) with hc38 | hc38
    ·rw [if_pos hc38] at ho1
     refine V_ge rfl rfl rfl hc38 ?_
     refine V_mv rfl rfl ?_
     refine V_ge rfl rfl rfl hc38 ?_
     refine V_y (Y_lenStr rfl Tryz.underlying9 rfl) rfl rfl rfl ?_
     refine V_ge rfl rfl rfl hc38 ?_
     refine V_y (Y_eql rfl rfl) rfl rfl rfl ?_
     refine V_ge rfl rfl rfl hc38 ?_
     refine V_mv rfl rfl ?_
     rcases Bool.eq_false_or_eq_true ((s.size : Int) == 1) with hc39 | hc39
     ·rw [if_pos hc39] at ho1
      refine V_gn rfl rfl rfl hc39 rfl rfl rfl ?_
      refine V_gn rfl rfl rfl hc39 rfl rfl rfl ?_
      refine V_gn rfl rfl rfl hc39 rfl rfl rfl ?_
      refine V_ge rfl rfl rfl hc38 ?_
      refine V_y (Y_pick_te rfl hc39 rfl) rfl rfl rfl ?_
      refine V_y (Y_pick_te rfl hc38 rfl) rfl rfl rfl ?_
      refine V_as rfl rfl ?_
      obtain rfl := Option.some.inj ho1
      refine V_end (fun a ha40 => ?_)
      exact ⟨A, ha40.sub ⟨rfl, trivial⟩, ⟨hH, hr3⟩⟩
     ·rw [if_neg (nt hc39)] at ho1
      refine V_ge rfl rfl rfl hc39 ?_
      refine V_mv rfl rfl ?_
      refine V_ge rfl rfl rfl hc39 ?_
      obtain ⟨x41, hx41, ho1⟩ := Option.bind_eq_some_iff.1 ho1
      refine V_y (Y_indexS hx41 Tryz.underlying9 rfl rfl) rfl rfl rfl ?_
      refine V_ge rfl rfl rfl hc39 ?_
      refine V_y (Y_neq rfl rfl) rfl rfl rfl ?_
      refine V_ge rfl rfl rfl hc38 ?_
      refine V_y (Y_pick_fe rfl hc39 rfl) rfl rfl rfl ?_
      refine V_y (Y_pick_te rfl hc38 rfl) rfl rfl rfl ?_
      refine V_as rfl rfl ?_
      obtain rfl := Option.some.inj ho1
      refine V_end (fun a ha42 => ?_)
      exact ⟨A, ha42.sub ⟨rfl, trivial⟩, ⟨hH, hr3⟩⟩
    ·rw [if_neg (nt hc38)] at ho1
     refine V_gn rfl rfl rfl hc38 rfl rfl rfl ?_
     refine V_gn rfl rfl rfl hc38 rfl rfl rfl ?_
     refine V_gn rfl rfl rfl hc38 rfl rfl rfl ?_
     refine V_gn rfl rfl rfl hc38 rfl rfl rfl ?_
     refine V_gu rfl rfl rfl rfl rfl ?_
     refine V_gu rfl rfl rfl rfl rfl ?_
     refine V_gu rfl rfl rfl rfl rfl ?_
     refine V_gn rfl rfl rfl hc38 rfl rfl rfl ?_
     refine V_y (Y_pick_fe rfl hc38 rfl) rfl rfl rfl ?_
     refine V_as rfl rfl ?_
     obtain rfl := Option.some.inj ho1
     refine V_end (fun a ha43 => ?_)
     exact ⟨A, ha43.sub ⟨rfl, trivial⟩, ⟨hH, hr3⟩⟩
 rintro A7 w4 ⟨hH8, hk5⟩ a ha6
 replace hK := Tr.trans (Dw := False) hK hk5
 replace hA := hk5.new
 replace hH : Hp w.heap.size A7 w4 ([]) := hH8
 refine C_at (n := ⟨28, [], none⟩) (fun _ _ => rfl) ?_ ha6
 obtain rfl := Option.some.inj hm
 refine C_ret ?_
 try simp only [↓inBlock_ret, ↓then_ret]
 exact retQ rfl (Res.one Tryz.results44 rfl) ⟨rfl, hK.kp⟩

set_option maxRecDepth 4000 in
set_option maxHeartbeats 4000000 in
theorem portref2_digitString_c (w : World) {A : Nat → Prop} (hA : ∀ b, w.heap.size ≤ b → A b) (s : ByteArray) {r : Bool} (hm : portref2_digitString s = some r) : Ret Tryz.prog 26 #[.string s] w fun v w' => v = .bool r ∧ Kp False w w' := by
 unfold portref2_digitString at hm
 refine enter Tryz.func26 rfl Tryz.ntmps26 rfl ?_
 have hA0 := hA
 have hB := Nat.le_refl w.heap.size
 have hK : Tr False w.heap.size A w A w := Tr.refl (Dw := False) hA
 have hH : Hp w.heap.size A w [] := Hp.nil
 refine C_seq ?_
 refine C_region ?_
 refine V_as rfl rfl ?_
 refine V_to (fun _ _ => rfl) ?_
 refine C_seq ?_
 refine C_region ?_
 refine V_mv rfl rfl ?_
 obtain ⟨x1, hx1, hm⟩ := Option.bind_eq_some_iff.1 hm
 refine V_call Tryz.call44 rfl rfl rfl rfl (portref2_digits_c w hA s 20000 hx1) ?_
 rintro _ w2 ⟨rfl, hk3⟩
 have ht4 := Kp.tr (Dw := False) hk3 hA hB
 replace hK := Tr.trans (Dw := False) hK ht4
 refine V_as rfl rfl ?_
 refine V_to (fun _ _ => rfl) ?_
 obtain rfl := Option.some.inj hm
 refine C_ret ?_
 try simp only [↓inBlock_ret, ↓then_ret]
 exact retQ rfl (Res.one Tryz.results26 rfl) ⟨rfl, hK.kp⟩

set_option maxRecDepth 4000 in
set_option maxHeartbeats 4000000 in
theorem portref2_wholeText_c (w : World) {A : Nat → Prop} (hA : ∀ b, w.heap.size ≤ b → A b) (s : ByteArray) {r : (List UInt32)} (hm : portref2_wholeText s = some r) : Ret Tryz.prog 29 #[.string s] w fun v w' => ∃ s0, v = s0 ∧ Ownd 77 w w' s0 r ∧ Kp Dw w w' := by
 unfold portref2_wholeText at hm
 refine enter Tryz.func29 rfl Tryz.ntmps29 rfl ?_
 have hA0 := hA
 have hB := Nat.le_refl w.heap.size
 have hK : Tr Dw w.heap.size A w A w := Tr.refl (Dw := Dw) hA
 have hH : Hp w.heap.size A w [] := Hp.nil
 refine C_seq ?_
 refine C_region ?_
 refine V_as rfl rfl ?_
 refine V_to (fun _ _ => rfl) ?_
 refine C_seq ?_
 refine C_region ?_
 refine V_as rfl rfl ?_
 refine V_to (fun _ _ => rfl) ?_
 refine C_seq ?_
 refine C_seq ?_
 refine C_region ?_
 refine V_as rfl rfl ?_
 refine V_to (fun _ _ => rfl) ?_
 replace hH : Hp w.heap.size A w (obS (α := UInt32) 77 (.slice none 0 0) ([] : (List UInt32)) :: []) := Hp.addNil (α := UInt32) (e := 77) hH
 obtain ⟨o1, ho1, hm⟩ := Option.bind_eq_some_iff.1 hm
 refine C_cutG (ι := (((List UInt32) × Int) × Value × (Nat → Prop))) (fun ⟨s2, v8, A10⟩ => [(3, v8)]) (fun ⟨s2, v8, A10⟩ => fun w' => o1 = .fin s2 ∧ Hp w.heap.size A10 w' (obS (α := UInt32) 77 v8 s2.1 :: []) ∧ Tr Dw w.heap.size A w A10 w') ?_ ?_
 ·refine C_block ?_
  refine C_while ho1 (fun s12 a w' => ∃ i : (Value × (Nat → Prop)), Has ⟨63, [], none⟩ a ([(0, .string s), (3, i.1), (4, .int .i64 s12.2)]) ∧ Hp w.heap.size i.2 w' (obS (α := UInt32) 77 i.1 s12.1 :: []) ∧ Tr Dw w.heap.size A w i.2 w') (fun a ha => ⟨(.slice none 0 0, A), ha.sub ⟨rfl, rfl, rfl, trivial⟩, ⟨hH, Tr.refl (Dw := Dw) hA⟩⟩) ?_
  rintro K s12 a w13 ⟨⟨v14, A16⟩, ha128, hH17, hr3⟩ K24
  refine C_of ?_ ha128
  replace hB := Nat.le_trans hB hr3.ex.size
  replace hA := hr3.new
  replace hH : Hp w.heap.size A16 w13 (obS (α := UInt32) 77 v14 s12.1 :: []) := hH17
  obtain ⟨x18, h19, h20⟩ := K24
  refine C_seq ?_
  refine C_seq ?_
  refine C_region ?_
  refine V_mv rfl rfl ?_
  refine V_mv rfl rfl ?_
  refine V_y (Y_lenStr rfl Tryz.underlying9 rfl) rfl rfl rfl ?_
  refine V_y (Y_lss rfl rfl) rfl rfl rfl ?_
  refine V_to (fun _ _ => rfl) ?_
  refine C_cond rfl (fun hc25 => ?_) (fun hc25 => ?_)
  ·rw [if_pos hc25] at h19
   refine C_skip_to (fun _ _ => rfl) ?_
   obtain ⟨s27, ho26, h19⟩ := Option.bind_eq_some_iff.1 h19
   refine C_cutG (ι := (Value × (Nat → Prop))) (fun ⟨v29, A34⟩ => [(0, .string s), (3, v29), (4, .int .i64 s27.2)]) (fun ⟨v29, A34⟩ => fun w' => Hp w.heap.size A34 w' (obS (α := UInt32) 77 v29 s27.1 :: []) ∧ Tr Dw w.heap.size A16 w13 A34 w') ?_ ?_
   ·have hr28 : Tr Dw w.heap.size A16 w13 A16 w13 := Tr.refl (Dw := Dw) hA
    refine C_block ?_
    refine C_seq ?_
    refine C_region ?_
    refine V_mv rfl rfl ?_
    refine V_y (Y_addI rfl rfl) rfl rfl rfl ?_
    refine V_mv rfl rfl ?_
    refine V_y (Y_lenStr rfl Tryz.underlying9 rfl) rfl rfl rfl ?_
    refine V_y (Y_min2 rfl rfl) rfl rfl rfl ?_
    refine V_as rfl rfl ?_
    refine V_to (fun _ _ => rfl) ?_
    refine C_seq ?_
    refine C_region ?_
    refine V_as rfl rfl ?_
    refine V_as rfl rfl ?_
    refine V_to (fun _ _ => rfl) ?_
    refine C_seq ?_
    obtain ⟨o36, ho36, ho26⟩ := Option.bind_eq_some_iff.1 ho26
    refine C_cutG (ι := (Int × Int × Int)) (fun (s37 : (Int × Int × Int)) => [(0, .string s), (3, v14), (4, .int .i64 s37.1), (6, .int .u64 s37.2.1), (7, .int .u64 s37.2.2)]) (fun (s37 : (Int × Int × Int)) => fun w' => o36 = .fin s37 ∧ w13 = w') ?_ ?_
    ·refine C_block ?_
     refine C_while ho36 (fun s43 a w' => ∃ i : Unit, Has ⟨63, [], none⟩ a ([(0, .string s), (3, v14), (4, .int .i64 s43.1), (5, .int .i64 (if (s.size : Int) < w64 (s12.2 + 9) then (s.size : Int) else w64 (s12.2 + 9))), (6, .int .u64 s43.2.1), (7, .int .u64 s43.2.2)]) ∧ w13 = w') (fun a ha => ⟨(), ha.sub ⟨rfl, rfl, rfl, rfl, rfl, rfl, trivial⟩, rfl⟩) ?_
     rintro K s43 a _ ⟨_, ha56, rfl⟩ K51
     refine C_of ?_ ha56
     obtain ⟨x45, h46, h47⟩ := K51
     refine C_seq ?_
     refine C_seq ?_
     refine C_region ?_
     refine V_mv rfl rfl ?_
     refine V_mv rfl rfl ?_
     refine V_y (Y_lss rfl rfl) rfl rfl rfl ?_
     refine V_to (fun _ _ => rfl) ?_
     refine C_cond rfl (fun hc52 => ?_) (fun hc52 => ?_)
     ·rw [if_pos hc52] at h46
      refine C_skip_to (fun _ _ => rfl) ?_
      refine C_seq ?_
      refine C_block ?_
      refine C_region ?_
      refine V_mv rfl rfl ?_
      refine V_y (Y_mul rfl rfl) rfl rfl rfl ?_
      refine V_mv rfl rfl ?_
      refine V_mv rfl rfl ?_
      obtain ⟨x53, hx53, h46⟩ := Option.bind_eq_some_iff.1 h46
      refine V_y (Y_indexS hx53 Tryz.underlying9 rfl rfl) rfl rfl rfl ?_
      refine V_y (Y_subB rfl rfl) rfl rfl rfl ?_
      refine V_y (Y_convI Tryz.underlying5 Tryz.underlying76 rfl) rfl rfl rfl ?_
      refine V_y (Y_add rfl rfl) rfl rfl rfl ?_
      refine V_mv rfl rfl ?_
      refine V_y (Y_mul rfl rfl) rfl rfl rfl ?_
      refine V_as rfl rfl ?_
      refine V_as rfl rfl ?_
      refine V_to (fun _ _ => rfl) ?_
      refine C_region ?_
      refine V_mv rfl rfl ?_
      refine V_y (Y_addI rfl rfl) rfl rfl rfl ?_
      refine V_as rfl rfl ?_
      obtain rfl := Option.some.inj h46
      refine V_end (fun a ha54 => ?_)
      exact ⟨(w64 (s43.1 + 1), IntKind.wrap .u64 ((IntKind.wrap .u64 (10 * s43.2.1)) + (IntKind.wrap .u64 ((toU8 ((x53.toNat : Int) - 48)).toNat : Int))), IntKind.wrap .u64 (10 * s43.2.2)), h47, ⟨(), ha54.sub ⟨rfl, rfl, rfl, rfl, rfl, rfl, trivial⟩, rfl⟩⟩
     ·rw [if_neg (nt hc52)] at h46
      obtain rfl := Option.some.inj h46
      refine C_exit (fun a ha55 => ?_)
      exact ⟨(s43.1, s43.2.1, s43.2.2), ha55.sub ⟨rfl, rfl, rfl, rfl, rfl, trivial⟩, ⟨h47.symm, rfl⟩⟩
    rintro s37 _ ⟨rfl, rfl⟩ a ha42
    rw [Lp.andThen_fin] at ho26
    refine C_at (n := ⟨63, [], none⟩) (fun _ _ => rfl) ?_ ha42
    refine C_seq ?_
    refine C_seq ?_
    refine C_region ?_
    refine V_mv rfl rfl ?_
    refine V_y (Y_lenSl (Hp.any (α := UInt32) (e := 77) (v := v14) (l := s12.1) hH (i := 0) rfl) rfl Tryz.underlying41 rfl) rfl rfl rfl ?_
    refine V_mv rfl rfl ?_
    refine V_to (fun _ _ => rfl) ?_
    have hn81 := Hp.le (α := UInt32) (e := 77) (v := v14) (l := s12.1) hH (i := 0) rfl
    obtain ⟨o57, ho57, ho26⟩ := Option.bind_eq_some_iff.1 ho26
    refine C_cutG (ι := (((List UInt32) × Int) × Value × (Nat → Prop))) (fun ⟨s58, v64, A66⟩ => [(0, .string s), (3, v64), (4, .int .i64 s37.1), (6, .int .u64 s58.2)]) (fun ⟨s58, v64, A66⟩ => fun w' => o57 = .fin s58 ∧ Hp w.heap.size A66 w' (obS (α := UInt32) 77 v64 s58.1 :: []) ∧ Tr Dw w.heap.size A16 w13 A66 w') ?_ ?_
    ·refine C_block ?_
     refine C_range ho57 (fun k60 s68 a w' => ∃ i : (Value × (Nat → Prop)), Has ⟨63, [], none⟩ a ([(0, .string s), (3, i.1), (4, .int .i64 s37.1), (6, .int .u64 s68.2), (7, .int .u64 s37.2.2), (34, .int .i64 (s12.1.length : Int)), (35, .int .i64 (k60 : Int))]) ∧ Hp w.heap.size i.2 w' (obS (α := UInt32) 77 i.1 s68.1 :: []) ∧ Tr Dw w.heap.size A16 w13 i.2 w') (fun a ha => ⟨(v14, A16), ha.sub ⟨rfl, rfl, rfl, rfl, rfl, rfl, rfl, trivial⟩, ⟨hH, Tr.refl (Dw := Dw) hA⟩⟩) ?_
     rintro K k60 s68 a w69 ⟨⟨v70, A72⟩, ha99, hH73, hr59⟩ hle77 K80 h79
     refine C_of ?_ ha99
     replace hB := Nat.le_trans hB hr59.ex.size
     replace hA := hr59.new
     replace hH : Hp w.heap.size A72 w69 (obS (α := UInt32) 77 v70 s68.1 :: []) := hH73
     refine C_seq (C_region (V_y (Y_lss rfl rfl) rfl rfl rfl (V_to (fun _ _ => rfl) ?_)))
     refine C_seq ?_
     refine C_cond rfl (fun hc82 => ?_) (fun hc82 => ?_)
     ·have hlt78 := lt_of_dec hc82
      obtain ⟨x74, h75, h76⟩ := K80 hlt78
      refine C_skip_to (fun _ _ => rfl) ?_
      refine C_seq ?_
      refine C_block ?_
      refine C_seq ?_
      refine C_region ?_
      refine V_mv rfl rfl ?_
      refine V_as rfl rfl ?_
      refine V_to (fun _ _ => rfl) ?_
      refine C_seq ?_
      refine C_region ?_
      refine V_mv rfl rfl ?_
      refine V_mv rfl rfl ?_
      refine V_mv rfl rfl ?_
      refine V_mv rfl rfl ?_
      obtain ⟨x83, hx83, h75⟩ := Option.bind_eq_some_iff.1 h75
      refine V_indexAddrH (α := UInt32) (e := 77) (v := v70) (l := s68.1) hH (i := 0) rfl hx83 Tryz.underlying41 Tryz.sizeOf77 rfl rfl rfl ?_
      intro b84 o85 h86 hl87
      refine V_y (Y_load (El.u32 h86) Tryz.isAgg77 rfl) rfl rfl rfl ?_
      refine V_y (Y_convI Tryz.underlying77 Tryz.underlying76 rfl) rfl rfl rfl ?_
      refine V_y (Y_mul rfl rfl) rfl rfl rfl ?_
      refine V_y (Y_add rfl rfl) rfl rfl rfl ?_
      refine V_as rfl rfl ?_
      refine V_to (fun _ _ => rfl) ?_
      refine C_seq ?_
      refine C_region ?_
      refine V_mv rfl rfl ?_
      refine V_mv rfl rfl ?_
      refine V_mv rfl rfl ?_
      refine V_y (Y_convU32 Tryz.underlying76 Tryz.underlying77 rfl) rfl rfl rfl ?_
      refine V_indexAddrH (α := UInt32) (e := 77) (v := v70) (l := s68.1) hH (i := 0) rfl hx83 Tryz.underlying41 Tryz.sizeOf77 rfl rfl rfl ?_
      intro b88 o89 h90 hl91
      obtain ⟨x92, hx92, h75⟩ := Option.bind_eq_some_iff.1 h75
      refine V_storeH (Dw := Dw) (α := UInt32) (e := 77) (v := v70) (l := s68.1) hH (i := 0) rfl hl91 hx92 rfl Tryz.sizeOf77 rfl hB hA rfl rfl ?_
      intro w93 hH94 ht95
      replace hr59 := Tr.trans hr59 ht95
      replace hH : Hp w.heap.size A72 w93 (obS (α := UInt32) 77 v70 x92 :: []) := hH94
      refine V_to (fun _ _ => rfl) ?_
      refine C_region ?_
      refine V_mv rfl rfl ?_
      obtain ⟨x96, hx96, h75⟩ := Option.bind_eq_some_iff.1 h75
      refine V_y (Y_shr hx96 rfl rfl) rfl rfl rfl ?_
      refine V_as rfl rfl ?_
      refine V_to (fun _ _ => rfl) ?_
      refine C_region ?_
      refine V_y (Y_addI rfl rfl) rfl rfl rfl ?_
      refine V_mv rfl rfl ?_
      obtain rfl := Option.some.inj h75
      refine V_end (fun a ha97 => ?_)
      exact ⟨(x92, x96), hlt78, h76, ⟨(v70, A72), ha97.sub ⟨rfl, rfl, rfl, rfl, rfl, rfl, (congrArg (fun z => some (Value.int .i64 z)) (w64_succ hlt78 hn81)), trivial⟩, ⟨hH, hr59⟩⟩⟩
     ·refine C_exit (fun a ha98 => ?_)
      exact ⟨((s68.1, s68.2), v70, A72), ha98.sub ⟨rfl, rfl, rfl, rfl, trivial⟩, ⟨(h79 (eq_of_dec hle77 hc82)).symm, hH, hr59⟩⟩
    rintro ⟨s58, v64, A66⟩ w61 ⟨rfl, hH67, hk62⟩ a ha63
    rw [Lp.andThen_fin] at ho26
    replace hr28 := Tr.trans hr28 hk62
    replace hB := Nat.le_trans hB hk62.ex.size
    replace hA := hk62.new
    replace hH : Hp w.heap.size A66 w61 (obS (α := UInt32) 77 v64 s58.1 :: []) := hH67
    refine C_at (n := ⟨63, [], none⟩) (fun _ _ => rfl) ?_ ha63
    refine C_seq ?_
    refine C_region ?_
    refine V_mv rfl rfl ?_
    refine V_y (Y_gtr rfl rfl) rfl rfl rfl ?_
    refine V_to (fun _ _ => rfl) ?_
    obtain ⟨s101, ho100, ho26⟩ := Option.bind_eq_some_iff.1 ho26
    refine C_cutG (ι := (Value × (Nat → Prop))) (fun ⟨v103, A108⟩ => [(0, .string s), (3, v103), (4, .int .i64 s37.1)]) (fun ⟨v103, A108⟩ => fun w' => Hp w.heap.size A108 w' (obS (α := UInt32) 77 v103 s101 :: []) ∧ Tr Dw w.heap.size A66 w61 A108 w') ?_ ?_
    ·have hr102 : Tr Dw w.heap.size A66 w61 A66 w61 := Tr.refl (Dw := Dw) hA
     refine C_cond rfl (fun hc110 => ?_) (fun hc110 => ?_)
     ·rw [if_pos hc110] at ho100
      refine C_region ?_
      refine V_mv rfl rfl ?_
      refine V_mv rfl rfl ?_
      refine V_y (Y_convU32 Tryz.underlying76 Tryz.underlying77 rfl) rfl rfl rfl ?_
      refine V_buildSlice (Dw := Dw) (cells := #[.int .u32 ((toU32 s58.2).toNat : Int)]) (l := ([(toU32 s58.2)] : List UInt32)) (len := 1) Tryz.underlying41 Tryz.sizeOf77 Tryz.zeroValue77 rfl (by generalize (((toU32 s58.2).toNat : Int) : Int) = z115; kernel_rfl) (show (1 * 1 : Nat) ≠ 0 by decide) (show (1 * 1 : Nat) ≤ 2 ^ 24 by decide) hA ⟨[.int .u32 ((toU32 s58.2).toNat : Int)], _, rfl, rfl, rfl⟩ rfl rfl ?_
      intro v111 w112 hk114 h113
      have ht116 := Kp.tr hk114 hA hB
      replace hH := Hp.kp hH hk114
      replace hr102 := Tr.trans hr102 ht116
      replace hB := Nat.le_trans hB ht116.ex.size
      replace hA := ht116.new
      obtain ⟨x117, hx117, ho100⟩ := Option.bind_eq_some_iff.1 ho100
      refine V_appendH (Dw := Dw) (e := 77) (v := v64) (l := s58.1) (ti := Tryz.t77) (bytes := 4) (lim := 35184372088832) hH (i := 0) rfl h113 hx117 Tryz.underlying41 Tryz_info77 rfl rfl rfl rfl (by decide) (by decide) (by decide) hB hA rfl rfl rfl ?_
      intro v118 w119 A120 hH121 ht122
      replace hr102 := Tr.trans hr102 ht122
      replace hH : Hp w.heap.size A120 w119 (obS (α := UInt32) 77 v118 x117 :: []) := hH121
      refine V_as rfl rfl ?_
      obtain rfl := Option.some.inj ho100
      refine V_end (fun a ha123 => ?_)
      exact ⟨(v118, A120), ha123.sub ⟨rfl, rfl, rfl, trivial⟩, ⟨hH, hr102⟩⟩
     ·rw [if_neg (nt hc110)] at ho100
      obtain rfl := Option.some.inj ho100
      refine C_skip (fun a ha124 => ?_)
      exact ⟨(v64, A66), ha124.sub ⟨rfl, rfl, rfl, trivial⟩, ⟨hH, hr102⟩⟩
    rintro ⟨v103, A108⟩ w105 ⟨hH109, hk106⟩ a ha107
    replace hr28 := Tr.trans hr28 hk106
    replace hA := hk106.new
    replace hH : Hp w.heap.size A108 w105 (obS (α := UInt32) 77 v103 s101 :: []) := hH109
    obtain rfl := Option.some.inj ho26
    exact ⟨(v103, A108), ha107.sub ⟨rfl, rfl, rfl, trivial⟩, ⟨hH, hr28⟩⟩
   rintro ⟨v29, A34⟩ w31 ⟨hH35, hk32⟩ a ha33
   replace hr3 := Tr.trans hr3 hk32
   replace hA := hk32.new
   replace hH : Hp w.heap.size A34 w31 (obS (α := UInt32) 77 v29 s27.1 :: []) := hH35
   obtain rfl := Option.some.inj h19
   exact ⟨(s27.1, s27.2), h20, ⟨(v29, A34), ha33.sub ⟨rfl, rfl, rfl, trivial⟩, ⟨hH, hr3⟩⟩⟩
  ·rw [if_neg (nt hc25)] at h19
   obtain rfl := Option.some.inj h19
   refine C_exit (fun a ha127 => ?_)
   exact ⟨((s12.1, s12.2), v14, A16), ha127.sub ⟨rfl, trivial⟩, ⟨h20.symm, hH, hr3⟩⟩
 rintro ⟨s2, v8, A10⟩ w5 ⟨rfl, hH11, hk6⟩ a ha7
 rw [Lp.andThen_fin] at hm
 replace hK := Tr.trans hK hk6
 replace hA := hk6.new
 replace hH : Hp w.heap.size A10 w5 (obS (α := UInt32) 77 v8 s2.1 :: []) := hH11
 refine C_at (n := ⟨63, [], none⟩) (fun _ _ => rfl) ?_ ha7
 refine C_seq ?_
 refine C_region ?_
 refine V_mv rfl rfl ?_
 refine V_as rfl rfl ?_
 refine V_to (fun _ _ => rfl) ?_
 obtain rfl := Option.some.inj hm
 refine C_ret ?_
 try simp only [↓inBlock_ret, ↓then_ret]
 exact retQ rfl (Res.one Tryz.results29 rfl) ⟨v8, rfl, (Hp.ownd hH (i := 0) rfl), hK.kp⟩

set_option maxRecDepth 4000 in
set_option maxHeartbeats 4000000 in
theorem portref2_whole_cmp_c (w : World) {A : Nat → Prop} (hA : ∀ b, w.heap.size ≤ b → A b) (a_ : (List UInt32)) (v_a_ : Value) (h_a_ : Sl A w v_a_ a_) (b : (List UInt32)) (v_b : Value) (h_b : Sl A w v_b b) {r : Int} (hm : portref2_whole_cmp a_ b = some r) : Ret Tryz.prog 31 #[v_a_, v_b] w fun v w' => v = .int .i64 r ∧ Kp Dw w w' := by
 unfold portref2_whole_cmp at hm
 refine enter Tryz.func31 rfl Tryz.ntmps31 rfl ?_
 have hA0 := hA
 have hB := Nat.le_refl w.heap.size
 have hK : Tr Dw w.heap.size A w A w := Tr.refl (Dw := Dw) hA
 have hH : Hp w.heap.size A w [] := Hp.nil
 refine C_seq ?_
 refine C_region ?_
 refine V_as rfl rfl ?_
 refine V_to (fun _ _ => rfl) ?_
 refine C_seq ?_
 refine C_seq ?_
 refine C_region ?_
 refine V_mv rfl rfl ?_
 refine V_y (Y_lenSl h_a_ rfl Tryz.underlying41 rfl) rfl rfl rfl ?_
 refine V_mv rfl rfl ?_
 refine V_y (Y_lenSl h_b rfl Tryz.underlying41 rfl) rfl rfl rfl ?_
 refine V_y (Y_neq rfl rfl) rfl rfl rfl ?_
 refine V_to (fun _ _ => rfl) ?_
 refine C_cond rfl (fun hc5 => ?_) (fun hc5 => ?_)
 ·rw [if_pos hc5] at hm
  refine C_seq ?_
  refine C_seq ?_
  refine C_region ?_
  refine V_mv rfl rfl ?_
  refine V_y (Y_lenSl h_a_ rfl Tryz.underlying41 rfl) rfl rfl rfl ?_
  refine V_mv rfl rfl ?_
  refine V_y (Y_lenSl h_b rfl Tryz.underlying41 rfl) rfl rfl rfl ?_
  refine V_y (Y_lss rfl rfl) rfl rfl rfl ?_
  refine V_to (fun _ _ => rfl) ?_
  refine C_cond rfl (fun hc6 => ?_) (fun hc6 => ?_)
  ·rw [if_pos hc6] at hm
   refine C_seq ?_
   refine C_region ?_
   refine V_as rfl rfl ?_
   refine V_to (fun _ _ => rfl) ?_
   obtain rfl := Option.some.inj hm
   refine C_ret ?_
   try simp only [↓inBlock_ret, ↓then_ret]
   exact retQ rfl (Res.one Tryz.results31 rfl) ⟨rfl, hK.kp⟩
  ·rw [if_neg (nt hc6)] at hm
   refine C_skip_to (fun _ _ => rfl) ?_
   refine C_seq ?_
   refine C_region ?_
   refine V_as rfl rfl ?_
   refine V_to (fun _ _ => rfl) ?_
   obtain rfl := Option.some.inj hm
   refine C_ret ?_
   try simp only [↓inBlock_ret, ↓then_ret]
   exact retQ rfl (Res.one Tryz.results31 rfl) ⟨rfl, hK.kp⟩
 ·rw [if_neg (nt hc5)] at hm
  refine C_skip_to (fun _ _ => rfl) ?_
  refine C_seq ?_
  refine C_seq ?_
  refine C_region ?_
  refine V_mv rfl rfl ?_
  refine V_y (Y_lenSl h_a_ rfl Tryz.underlying41 rfl) rfl rfl rfl ?_
  refine V_y (Y_subI rfl rfl) rfl rfl rfl ?_
  refine V_as rfl rfl ?_
  refine V_to (fun _ _ => rfl) ?_
  obtain ⟨o7, ho7, hm⟩ := Option.bind_eq_some_iff.1 hm
  refine C_cutG (ι := (Int × (Nat → Prop))) (fun ⟨s8, A14⟩ => []) (fun ⟨s8, A14⟩ => fun w' => o7 = .fin s8 ∧ Hp w.heap.size A14 w' ([]) ∧ Tr Dw w.heap.size A w A14 w') ?_ ?_
  ·refine C_block ?_
   refine C_while ho7 (fun s16 a w' => ∃ i : (Nat → Prop), Has ⟨41, [], none⟩ a ([(0, v_a_), (1, v_b), (5, .int .i64 s16)]) ∧ Hp w.heap.size i w' ([]) ∧ Tr Dw w.heap.size A w i w') (fun a ha => ⟨A, ha.sub ⟨rfl, rfl, rfl, trivial⟩, ⟨hH, Tr.refl (Dw := Dw) hA⟩⟩) ?_
   rintro K s16 a w17 ⟨A18, ha52, hH19, hr9⟩ K26
   refine C_of ?_ ha52
   replace h_a_ := Sl.tr h_a_ hr9
   replace h_b := Sl.tr h_b hr9
   replace hK := Tr.trans hK hr9
   replace hB := Nat.le_trans hB hr9.ex.size
   replace hA := hr9.new
   replace hH : Hp w.heap.size A18 w17 ([]) := hH19
   obtain ⟨x20, h21, h22⟩ := K26
   refine C_seq ?_
   refine C_seq ?_
   refine C_region ?_
   refine V_mv rfl rfl ?_
   refine V_y (Y_geq rfl rfl) rfl rfl rfl ?_
   refine V_to (fun _ _ => rfl) ?_
   refine C_cond rfl (fun hc27 => ?_) (fun hc27 => ?_)
   ·rw [if_pos hc27] at h21
    refine C_skip_to (fun _ _ => rfl) ?_
    refine C_seq ?_
    refine C_block ?_
    refine C_seq ?_
    refine C_region_q (Dw := Dw) Tryz_mixed (by kernel_rfl) ?_
    refine VQ_y (fun w' hw' => Y_move rfl) rfl rfl rfl ?_
    refine VQ_y (fun w' hw' => Y_move rfl) rfl rfl rfl ?_
    obtain ⟨x28, hx28, h21⟩ := Option.bind_eq_some_iff.1 h21
    refine VQ_indexAddr h_a_ hx28 Tryz.underlying41 Tryz.sizeOf77 rfl rfl rfl ?_
    intro b29 o30 h31
    refine VQ_y (fun w' hw' => Y_load (El.u32 (El.kp (Dw := Dw) h31 hw')) Tryz.isAgg77 rfl) rfl rfl rfl ?_
    refine VQ_y (fun w' hw' => Y_move rfl) rfl rfl rfl ?_
    refine VQ_y (fun w' hw' => Y_move rfl) rfl rfl rfl ?_
    obtain ⟨x32, hx32, h21⟩ := Option.bind_eq_some_iff.1 h21
    refine VQ_indexAddr h_b hx32 Tryz.underlying41 Tryz.sizeOf77 rfl rfl rfl ?_
    intro b33 o34 h35
    refine VQ_y (fun w' hw' => Y_load (El.u32 (El.kp (Dw := Dw) h35 hw')) Tryz.isAgg77 rfl) rfl rfl rfl ?_
    refine VQ_y (fun w' hw' => Y_neq rfl rfl) rfl rfl rfl ?_
    refine VQ_to (fun _ _ => rfl) (fun w36 hk37 => ?_)
    have ht38 := Kp.tr hk37 hA hB
    replace hH := Hp.kp hH hk37
    replace h_a_ := Sl.tr h_a_ ht38
    replace h_b := Sl.tr h_b ht38
    replace hK := Tr.trans hK ht38
    replace hr9 := Tr.trans hr9 ht38
    replace hB := Nat.le_trans hB ht38.ex.size
    replace hA := ht38.new
    refine C_cond rfl (fun hc39 => ?_) (fun hc39 => ?_)
    ·rw [if_pos hc39] at h21
     refine C_seq ?_
     refine C_seq ?_
     refine C_region_q (Dw := Dw) Tryz_mixed (by kernel_rfl) ?_
     refine VQ_y (fun w' hw' => Y_move rfl) rfl rfl rfl ?_
     refine VQ_y (fun w' hw' => Y_move rfl) rfl rfl rfl ?_
     refine VQ_indexAddr h_a_ hx28 Tryz.underlying41 Tryz.sizeOf77 rfl rfl rfl ?_
     intro b40 o41 h42
     refine VQ_y (fun w' hw' => Y_load (El.u32 (El.kp (Dw := Dw) h42 hw')) Tryz.isAgg77 rfl) rfl rfl rfl ?_
     refine VQ_y (fun w' hw' => Y_move rfl) rfl rfl rfl ?_
     refine VQ_y (fun w' hw' => Y_move rfl) rfl rfl rfl ?_
     refine VQ_indexAddr h_b hx32 Tryz.underlying41 Tryz.sizeOf77 rfl rfl rfl ?_
     intro b43 o44 h45
     refine VQ_y (fun w' hw' => Y_load (El.u32 (El.kp (Dw := Dw) h45 hw')) Tryz.isAgg77 rfl) rfl rfl rfl ?_
     refine VQ_y (fun w' hw' => Y_lss rfl rfl) rfl rfl rfl ?_
     refine VQ_to (fun _ _ => rfl) (fun w46 hk47 => ?_)
     have ht48 := Kp.tr hk47 hA hB
     replace hK := Tr.trans hK ht48
     refine C_cond rfl (fun hc49 => ?_) (fun hc49 => ?_)
     ·rw [if_pos hc49] at h21
      refine C_seq ?_
      refine C_region ?_
      refine V_as rfl rfl ?_
      refine V_to (fun _ _ => rfl) ?_
      obtain rfl := Option.some.inj h21
      obtain rfl := (h22 : Lp.rt _ = _)
      rw [Lp.andThen_rt] at hm
      obtain rfl := Option.some.inj hm
      refine C_ret ?_
      try simp only [↓inBlock_ret, ↓then_ret]
      exact retQ rfl (Res.one Tryz.results31 rfl) ⟨rfl, hK.kp⟩
     ·rw [if_neg (nt hc49)] at h21
      refine C_skip_to (fun _ _ => rfl) ?_
      refine C_seq ?_
      refine C_region ?_
      refine V_as rfl rfl ?_
      refine V_to (fun _ _ => rfl) ?_
      obtain rfl := Option.some.inj h21
      obtain rfl := (h22 : Lp.rt _ = _)
      rw [Lp.andThen_rt] at hm
      obtain rfl := Option.some.inj hm
      refine C_ret ?_
      try simp only [↓inBlock_ret, ↓then_ret]
      exact retQ rfl (Res.one Tryz.results31 rfl) ⟨rfl, hK.kp⟩
    ·rw [if_neg (nt hc39)] at h21
     refine C_skip_to (fun _ _ => rfl) ?_
     refine C_region ?_
     refine V_mv rfl rfl ?_
     refine V_y (Y_subI rfl rfl) rfl rfl rfl ?_
     refine V_as rfl rfl ?_
     obtain rfl := Option.some.inj h21
     refine V_end (fun a ha50 => ?_)
     exact ⟨w64 (s16 - 1), h22, ⟨A18, ha50.sub ⟨rfl, rfl, rfl, trivial⟩, ⟨hH, hr9⟩⟩⟩
   ·rw [if_neg (nt hc27)] at h21
    obtain rfl := Option.some.inj h21
    refine C_exit (fun a ha51 => ?_)
    exact ⟨(s16, A18), ha51.sub trivial, ⟨h22.symm, hH, hr9⟩⟩
  rintro ⟨s8, A14⟩ w11 ⟨rfl, hH15, hk12⟩ a ha13
  rw [Lp.andThen_fin] at hm
  replace hK := Tr.trans hK hk12
  replace hA := hk12.new
  replace hH : Hp w.heap.size A14 w11 ([]) := hH15
  refine C_at (n := ⟨41, [], none⟩) (fun _ _ => rfl) ?_ ha13
  refine C_seq ?_
  refine C_region ?_
  refine V_as rfl rfl ?_
  refine V_to (fun _ _ => rfl) ?_
  obtain rfl := Option.some.inj hm
  refine C_ret ?_
  try simp only [↓inBlock_ret, ↓then_ret]
  exact retQ rfl (Res.one Tryz.results31 rfl) ⟨rfl, hK.kp⟩

set_option maxRecDepth 4000 in
set_option maxHeartbeats 4000000 in
theorem portref2_whole_trim_c (w : World) {A : Nat → Prop} {B : Nat} (hB : B ≤ w.heap.size) (hA : ∀ b, w.heap.size ≤ b → A b) (a_ : (List UInt32)) (v_a_ : Value) {L : List Ob} (hH : Hp B A w (obS (α := UInt32) 77 v_a_ a_ :: L)) {r : (List UInt32)} (hm : portref2_whole_trim a_ = some r) : Ret Tryz.prog 46 #[v_a_] w fun v w' => ∃ s0, ∃ A1 : Nat → Prop, v = s0 ∧ Hp B A1 w' (obS (α := UInt32) 77 s0 r :: L) ∧ Tr Dw B A w A1 w' := by
 unfold portref2_whole_trim at hm
 refine enter Tryz.func46 rfl Tryz.ntmps46 rfl ?_
 have hK : Tr Dw B A w A w := Tr.refl (Dw := Dw) hA
 refine C_seq ?_
 refine C_region ?_
 refine V_as rfl rfl ?_
 refine V_to (fun _ _ => rfl) ?_
 refine C_seq ?_
 obtain ⟨o1, ho1, hm⟩ := Option.bind_eq_some_iff.1 hm
 refine C_cutG (ι := ((List UInt32) × Value × (Nat → Prop))) (fun ⟨s2, v8, A10⟩ => [(0, v8)]) (fun ⟨s2, v8, A10⟩ => fun w' => o1 = .fin s2 ∧ Hp B A10 w' (obS (α := UInt32) 77 v8 s2 :: L) ∧ Tr Dw B A w A10 w') ?_ ?_
 ·refine C_block ?_
  refine C_while ho1 (fun s12 a w' => ∃ i : (Value × (Nat → Prop)), Has ⟨21, [], none⟩ a ([(0, i.1)]) ∧ Hp B i.2 w' (obS (α := UInt32) 77 i.1 s12 :: L) ∧ Tr Dw B A w i.2 w') (fun a ha => ⟨(v_a_, A), ha.sub ⟨rfl, trivial⟩, ⟨hH, Tr.refl (Dw := Dw) hA⟩⟩) ?_
  rintro K s12 a w13 ⟨⟨v14, A16⟩, ha38, hH17, hr3⟩ K24
  refine C_of ?_ ha38
  replace hA := hr3.new
  replace hH : Hp B A16 w13 (obS (α := UInt32) 77 v14 s12 :: L) := hH17
  obtain ⟨x18, h19, h20⟩ := K24
  refine C_seq ?_
  refine C_seq ?_
  refine C_region ?_
  refine V_mv rfl rfl ?_
  refine V_y (Y_lenSl (Hp.any (α := UInt32) (e := 77) (v := v14) (l := s12) hH (i := 0) rfl) rfl Tryz.underlying41 rfl) rfl rfl rfl ?_
  refine V_y (Y_gtr rfl rfl) rfl rfl rfl ?_
  refine V_mv rfl rfl ?_
  obtain ⟨s26, hs26, h19⟩ := Option.bind_eq_some_iff.1 h19
  refine V_cut 8 (fun _ : Unit => [(0, v14), (14, .bool s26)]) (fun _ w' => w13 = w') ?_ ?_
  ·simp only [List.take, List.drop]
   rcases Bool.eq_false_or_eq_true (decide ((0 : Int) < (s12.length : Int))) with hc25 | hc25
   ·rw [if_pos hc25] at hs26
    refine V_ge rfl rfl rfl hc25 ?_
    refine V_mv rfl rfl ?_
    refine V_ge rfl rfl rfl hc25 ?_
    refine V_mv rfl rfl ?_
    refine V_ge rfl rfl rfl hc25 ?_
    refine V_y (Y_lenSl (Hp.any (α := UInt32) (e := 77) (v := v14) (l := s12) hH (i := 0) rfl) rfl Tryz.underlying41 rfl) rfl rfl rfl ?_
    refine V_ge rfl rfl rfl hc25 ?_
    refine V_y (Y_subI rfl rfl) rfl rfl rfl ?_
    refine V_ge rfl rfl rfl hc25 ?_
    obtain ⟨x27, hx27, hs26⟩ := Option.bind_eq_some_iff.1 hs26
    refine V_indexAddrH (α := UInt32) (e := 77) (v := v14) (l := s12) hH (i := 0) rfl hx27 Tryz.underlying41 Tryz.sizeOf77 rfl rfl rfl ?_
    intro b28 o29 h30 hl31
    refine V_ge rfl rfl rfl hc25 ?_
    refine V_y (Y_load (El.u32 h30) Tryz.isAgg77 rfl) rfl rfl rfl ?_
    refine V_ge rfl rfl rfl hc25 ?_
    refine V_y (Y_eql rfl rfl) rfl rfl rfl ?_
    refine V_y (Y_pick_te rfl hc25 rfl) rfl rfl rfl ?_
    obtain rfl := Option.some.inj hs26
    exact V_end fun a ha => ⟨(), ha.sub ⟨rfl, rfl, trivial⟩, rfl⟩
   ·rw [if_neg (nt hc25)] at hs26
    refine V_gn rfl rfl rfl hc25 rfl rfl rfl ?_
    refine V_gn rfl rfl rfl hc25 rfl rfl rfl ?_
    refine V_gn rfl rfl rfl hc25 rfl rfl rfl ?_
    refine V_gn rfl rfl rfl hc25 rfl rfl rfl ?_
    refine V_gn rfl rfl rfl hc25 rfl rfl rfl ?_
    refine V_gn rfl rfl rfl hc25 rfl rfl rfl ?_
    refine V_gn rfl rfl rfl hc25 rfl rfl rfl ?_
    refine V_y (Y_pick_fe rfl hc25 rfl) rfl rfl rfl ?_
    obtain rfl := Option.some.inj hs26
    exact V_end fun a ha => ⟨(), ha.sub ⟨rfl, rfl, trivial⟩, rfl⟩
  simp only [List.take, List.drop]
  rintro _ _ rfl
  refine V_to (fun _ _ => rfl) ?_
  refine C_cond rfl (fun hc32 => ?_) (fun hc32 => ?_)
  ·rw [if_pos hc32] at h19
   refine C_skip_to (fun _ _ => rfl) ?_
   refine C_block ?_
   refine C_region ?_
   refine V_mv rfl rfl ?_
   refine V_mv rfl rfl ?_
   refine V_y (Y_lenSl (Hp.any (α := UInt32) (e := 77) (v := v14) (l := s12) hH (i := 0) rfl) rfl Tryz.underlying41 rfl) rfl rfl rfl ?_
   refine V_y (Y_subI rfl rfl) rfl rfl rfl ?_
   obtain ⟨x33, hx33, h19⟩ := Option.bind_eq_some_iff.1 h19
   refine V_sliceOwnH (α := UInt32) (e := 77) (v := v14) (l := s12) hH (i := 0) rfl hx33 Tryz.underlying41 Tryz.sizeOf77 hA rfl rfl rfl ?_
   intro v34 hH35
   replace hH : Hp B A16 w13 (obS (α := UInt32) 77 v34 x33 :: L) := hH35
   refine V_as rfl rfl ?_
   obtain rfl := Option.some.inj h19
   refine V_end (fun a ha36 => ?_)
   exact ⟨x33, h20, ⟨(v34, A16), ha36.sub ⟨rfl, trivial⟩, ⟨hH, hr3⟩⟩⟩
  ·rw [if_neg (nt hc32)] at h19
   obtain rfl := Option.some.inj h19
   refine C_exit (fun a ha37 => ?_)
   exact ⟨(s12, v14, A16), ha37.sub ⟨rfl, trivial⟩, ⟨h20.symm, hH, hr3⟩⟩
 rintro ⟨s2, v8, A10⟩ w5 ⟨rfl, hH11, hk6⟩ a ha7
 rw [Lp.andThen_fin] at hm
 replace hK := Tr.trans hK hk6
 replace hA := hk6.new
 replace hH : Hp B A10 w5 (obS (α := UInt32) 77 v8 s2 :: L) := hH11
 refine C_at (n := ⟨21, [], none⟩) (fun _ _ => rfl) ?_ ha7
 refine C_seq ?_
 refine C_region ?_
 refine V_mv rfl rfl ?_
 refine V_as rfl rfl ?_
 refine V_to (fun _ _ => rfl) ?_
 obtain rfl := Option.some.inj hm
 refine C_ret ?_
 try simp only [↓inBlock_ret, ↓then_ret]
 exact retQ rfl (Res.one Tryz.results46 rfl) ⟨v8, A10, rfl, hH, hK⟩

end Go.Proofs.YtnnbhehaplphiaaGreatDoor.W
