/-
  Written by program (gen.py) from the IR of the dump: each function computes its model.
-/
import Derived.Test.YtbmbgmeggeemcaaDoorStaffFormulasW3
namespace Go.Proofs.YtbmbgmeggeemcaaDoor.W
open Go Go.RowKit Go.Pu Go.Gw Go.Proofs Go.Proofs.YtbmbgmeggeemcaaDoor.M
set_option linter.unusedVariables false
set_option linter.unusedSimpArgs false
variable {Dw : Prop}

set_option maxRecDepth 4000 in
set_option maxHeartbeats 4000000 in
theorem staff_Load_blocked_c (w : World) {A : Nat → Prop} (hA : ∀ b, w.heap.size ≤ b → A b) (l : staff_Load) (n : Int) {r : staff_ratio} (hm : staff_Load_blocked l n = some r) : Ret Tryd.prog 20 #[.agg #[.int .i64 l.calls, .int .i64 l.length, .int .i64 l.span], .int .i64 n] w fun v w' => ∃ s0 s1, v = .agg #[s0, s1] ∧ Sl A w' s0 r.num ∧ Sl A w' s1 r.den ∧ Kp Dw w w' := by
 unfold staff_Load_blocked at hm
 refine enter Tryd.func20 rfl Tryd.ntmps20 rfl ?_
 have hA0 := hA
 have hB := Nat.le_refl w.heap.size
 have hK : Tr Dw w.heap.size A w A w := Tr.refl (Dw := Dw) hA
 have hH : Hp w.heap.size A w [] := Hp.nil
 refine C_seq ?_
 refine C_region ?_
 refine V_box rfl rfl ?_
 intro b1 w2 h3
 have hk5 := h3.kp (Dw := Dw)
 have h4 : El (α := staff_Load) A w2 b1 0 l := h3.el hA ⟨[.int .i64 l.calls], _, rfl, rfl, ⟨[.int .i64 l.length], _, rfl, rfl, rfl⟩⟩
 have ht6 := Kp.tr hk5 hA hB
 replace hH := Hp.kp hH hk5
 replace hK := Tr.trans hK ht6
 replace hB := Nat.le_trans hB ht6.ex.size
 replace hA := ht6.new
 refine V_allocH (Dw := Dw) (B := w.heap.size) hH Tryd.zeroValue51 hB hA rfl ?_
 intro b7 w9 A10 hH11 ht12
 replace h4 := El.tr h4 ht12
 replace hK := Tr.trans hK ht12
 replace hB := Nat.le_trans hB ht12.ex.size
 replace hA := ht12.new
 replace hH : Hp w.heap.size A10 w9 (obC b7 [.slice none 0 0, .slice none 0 0] 51 :: []) := hH11
 refine V_to (fun _ _ => rfl) ?_
 refine C_seq ?_
 refine C_region ?_
 obtain ⟨h13, _⟩ := El_staff_Load h4
 refine V_y (Y_loadA h13 Tryd.isAgg23 Tryd.sizeOf23 rfl) rfl rfl rfl ?_
 obtain ⟨x14, hx14, hm⟩ := Option.bind_eq_some_iff.1 hm
 refine V_call Tryd.call11 rfl rfl rfl rfl (staff_Load_offered_c (Dw := Dw) w9 hA l hx14) ?_
 rintro _ w15 ⟨rfl, hk16⟩
 have ht17 := Kp.tr hk16 hA hB
 replace hH := Hp.kp hH hk16
 replace hK := Tr.trans hK ht17
 replace hB := Nat.le_trans hB ht17.ex.size
 replace hA := ht17.new
 refine V_mv rfl rfl ?_
 refine V_y (Y_extract rfl rfl) rfl rfl rfl ?_
 refine V_y (Y_extract rfl rfl) rfl rfl rfl ?_
 refine V_as rfl rfl ?_
 refine V_as rfl rfl ?_
 refine V_to (fun _ _ => rfl) ?_
 refine C_seq ?_
 refine C_region ?_
 refine V_buildSlice (Dw := Dw) (l := ([1] : List Int)) (len := 1) Tryd.underlying49 Tryd.sizeOf3 Tryd.zeroValue3 rfl (by with_unfolding_all rfl) (show (1 * 1 : Nat) ≠ 0 by decide) (show (1 * 1 : Nat) ≤ 2 ^ 24 by decide) hA ⟨[.int .i64 1], _, rfl, rfl, rfl⟩ rfl rfl ?_
 intro v18 w19 hk21 h20
 have ht22 := Kp.tr hk21 hA hB
 replace hH := Hp.kp hH hk21
 replace hK := Tr.trans hK ht22
 replace hB := Nat.le_trans hB ht22.ex.size
 replace hA := ht22.new
 refine V_buildSlice (Dw := Dw) (l := ([1] : List Int)) (len := 1) Tryd.underlying49 Tryd.sizeOf3 Tryd.zeroValue3 rfl (by with_unfolding_all rfl) (show (1 * 1 : Nat) ≠ 0 by decide) (show (1 * 1 : Nat) ≤ 2 ^ 24 by decide) hA ⟨[.int .i64 1], _, rfl, rfl, rfl⟩ rfl rfl ?_
 intro v23 w24 hk26 h25
 have ht27 := Kp.tr hk26 hA hB
 replace hH := Hp.kp hH hk26
 replace h20 := Sl.tr h20 ht27
 replace hK := Tr.trans hK ht27
 replace hB := Nat.le_trans hB ht27.ex.size
 replace hA := ht27.new
 refine V_y (Y_build (cells := #[v18, v23]) Tryd.underlying51 Tryd.zeroValue51 (Tryd_places51 _ Tryd.underlying51) rfl (by obtain ⟨a28, c29, e30, _⟩ := Sl.form h20; subst e30; obtain ⟨a31, c32, e33, _⟩ := Sl.form h25; subst e33; with_unfolding_all rfl)) rfl rfl rfl ?_
 refine V_allocH (Dw := Dw) (B := w.heap.size) hH Tryd.zeroValue51 hB hA rfl ?_
 intro b34 w35 A36 hH37 ht38
 replace h20 := Sl.tr h20 ht38
 replace h25 := Sl.tr h25 ht38
 replace hK := Tr.trans hK ht38
 replace hB := Nat.le_trans hB ht38.ex.size
 replace hA := ht38.new
 replace hH : Hp w.heap.size A36 w35 (obC b34 [.slice none 0 0, .slice none 0 0] 51 :: obC b7 [.slice none 0 0, .slice none 0 0] 51 :: []) := hH37
 have h44 : (v18).oneCell' = true := by obtain ⟨_, _, e, _⟩ := Sl.form h20; rw [e]; rfl
 have h47 : (v23).oneCell' = true := by obtain ⟨_, _, e, _⟩ := Sl.form h25; rw [e]; rfl
 refine V_storeC (Dw := Dw) (off := 0) (ds := [v18, v23]) hH (i := 0) rfl Tryd.sizeOf51 rfl (Nat.le_of_ble_eq_true rfl) (by exact (List.forall_mem_cons.2 ⟨h44, (List.forall_mem_cons.2 ⟨h47, (fun _ h => nomatch h)⟩)⟩)) rfl hB hA rfl rfl ?_
 intro w39 hH40 ht41
 replace h20 := Sl.tr h20 ht41
 replace h25 := Sl.tr h25 ht41
 replace hK := Tr.trans hK ht41
 replace hB := Nat.le_trans hB ht41.ex.size
 replace hA := ht41.new
 replace hH : Hp w.heap.size A36 w39 (obC b34 [v18, v23] 51 :: obC b7 [.slice none 0 0, .slice none 0 0] 51 :: []) := hH40
 refine V_to (fun _ _ => rfl) ?_
 refine C_seq ?_
 refine C_seq ?_
 refine C_region ?_
 refine V_mv rfl rfl ?_
 refine V_mv rfl rfl ?_
 refine V_to (fun _ _ => rfl) ?_
 obtain ⟨o48, ho48, hm⟩ := Option.bind_eq_some_iff.1 hm
 refine C_cutG (ι := ((Int × staff_ratio) × Value × Value × (Nat → Prop))) (fun ⟨s49, v55, v57, A59⟩ => [(4, .pointer (some ⟨b7, 0, none⟩)), (7, .pointer (some ⟨b34, 0, none⟩))]) (fun ⟨s49, v55, v57, A59⟩ => fun w' => o48 = .fin s49 ∧ Sl A59 w' v55 s49.2.num ∧ Sl A59 w' v57 s49.2.den ∧ Hp w.heap.size A59 w' (obC b34 [v55, v57] 51 :: obC b7 [.slice none 0 0, .slice none 0 0] 51 :: []) ∧ Tr Dw w.heap.size A36 w39 A59 w') ?_ ?_
 ·refine C_block ?_
  refine C_while ho48 (fun s61 a w' => ∃ i : (Value × Value × (Nat → Prop)), Has ⟨39, [], none⟩ a ([(4, .pointer (some ⟨b7, 0, none⟩)), (5, .int .i64 x14.1), (6, .int .i64 x14.2), (7, .pointer (some ⟨b34, 0, none⟩)), (18, .int .i64 n), (19, .int .i64 s61.1)]) ∧ Sl i.2.2 w' i.1 s61.2.num ∧ Sl i.2.2 w' i.2.1 s61.2.den ∧ Hp w.heap.size i.2.2 w' (obC b34 [i.1, i.2.1] 51 :: obC b7 [.slice none 0 0, .slice none 0 0] 51 :: []) ∧ Tr Dw w.heap.size A36 w39 i.2.2 w') (fun a ha => ⟨(v18, v23, A36), ha.sub ⟨rfl, rfl, rfl, rfl, rfl, rfl, trivial⟩, ⟨h20, h25, hH, Tr.refl (Dw := Dw) hA⟩⟩) ?_
  rintro K s61 a w62 ⟨⟨v63, v65, A67⟩, ha119, h64, h66, hH68, hr50⟩ K75
  refine C_of ?_ ha119
  replace hB := Nat.le_trans hB hr50.ex.size
  replace hA := hr50.new
  replace hH : Hp w.heap.size A67 w62 (obC b34 [v63, v65] 51 :: obC b7 [.slice none 0 0, .slice none 0 0] 51 :: []) := hH68
  obtain ⟨x69, h70, h71⟩ := K75
  refine C_seq ?_
  refine C_region ?_
  refine V_y (Y_lss rfl rfl) rfl rfl rfl ?_
  refine V_to (fun _ _ => rfl) ?_
  refine C_seq ?_
  refine C_cond rfl (fun hc76 => ?_) (fun hc76 => ?_)
  ·rw [if_pos hc76] at h70
   refine C_skip_to (fun _ _ => rfl) ?_
   refine C_seq ?_
   refine C_block ?_
   refine C_seq ?_
   refine C_region ?_
   refine V_mv rfl rfl ?_
   refine V_as rfl rfl ?_
   refine V_to (fun _ _ => rfl) ?_
   refine C_seq ?_
   refine C_region ?_
   refine V_y (Y_fieldAddrC (off2 := 0) Tryd.underlying51 rfl Tryd.sizeOf49 (by decide) rfl rfl) rfl rfl rfl ?_
   refine V_y (Y_load (Hp.cell (j := 0) hH (i := 0) rfl rfl) Tryd.isAgg49 rfl) rfl rfl rfl ?_
   refine V_mv rfl rfl ?_
   obtain ⟨x77, hx77, h70⟩ := Option.bind_eq_some_iff.1 h70
   refine V_call Tryd.call38 rfl rfl rfl rfl (staff_nat_small_c (Dw := Dw) w62 hA s61.2.num v63 h64 x14.1 hx77) ?_
   rintro v78 w80 ⟨_, rfl, h79, hk81⟩
   have ht82 := Kp.tr hk81 hA hB
   replace hH := Hp.kp hH hk81
   replace h66 := Sl.tr h66 ht82
   replace hr50 := Tr.trans hr50 ht82
   replace hB := Nat.le_trans hB ht82.ex.size
   replace hA := ht82.new
   refine V_as rfl rfl ?_
   refine V_to (fun _ _ => rfl) ?_
   refine C_region ?_
   refine V_mv rfl rfl ?_
   refine V_y (Y_fieldAddrC (off2 := 1) Tryd.underlying51 rfl Tryd.sizeOf49 (by decide) rfl rfl) rfl rfl rfl ?_
   refine V_y (Y_load (Hp.cell (j := 1) hH (i := 0) rfl rfl) Tryd.isAgg49 rfl) rfl rfl rfl ?_
   refine V_mv rfl rfl ?_
   refine V_y (Y_addI rfl rfl) rfl rfl rfl ?_
   refine V_mv rfl rfl ?_
   refine V_y (Y_mulI rfl rfl) rfl rfl rfl ?_
   obtain ⟨x83, hx83, h70⟩ := Option.bind_eq_some_iff.1 h70
   refine V_call Tryd.call38 rfl rfl rfl rfl (staff_nat_small_c (Dw := Dw) w80 hA s61.2.den v65 h66 (w64 ((w64 (s61.1 + 1)) * x14.2)) hx83) ?_
   rintro v84 w86 ⟨_, rfl, h85, hk87⟩
   have ht88 := Kp.tr hk87 hA hB
   replace hH := Hp.kp hH hk87
   replace h79 := Sl.tr h79 ht88
   replace hr50 := Tr.trans hr50 ht88
   replace hB := Nat.le_trans hB ht88.ex.size
   replace hA := ht88.new
   refine V_mv rfl rfl ?_
   obtain ⟨x89, hx89, h70⟩ := Option.bind_eq_some_iff.1 h70
   refine V_call Tryd.call39 rfl rfl rfl rfl (staff_nat_plus_c (Dw := Dw) w86 hA x83 v84 h85 x77 v78 h79 hx89) ?_
   rintro v90 w92 ⟨_, rfl, h91, hk93⟩
   obtain ⟨A94, ht95, hH96⟩ := Hp.addOwnd (Dw := Dw) hH hB hA hk93 h91
   replace h79 := Sl.tr h79 ht95
   replace hr50 := Tr.trans hr50 ht95
   replace hB := Nat.le_trans hB ht95.ex.size
   replace hA := ht95.new
   replace hH : Hp w.heap.size A94 w92 (obS (α := Int) 3 v90 x89 :: obC b34 [v63, v65] 51 :: obC b7 [.slice none 0 0, .slice none 0 0] 51 :: []) := hH96
   refine V_y (Y_build (cells := #[v78, v90]) Tryd.underlying51 Tryd.zeroValue51 (Tryd_places51 _ Tryd.underlying51) rfl (by obtain ⟨a97, c98, e99, _⟩ := Sl.form h79; subst e99; obtain ⟨a100, c101, e102, _⟩ := Hp.form (α := Int) (e := 3) (v := v90) (l := x89) hH (i := 0) rfl; subst e102; with_unfolding_all rfl)) rfl rfl rfl ?_
   obtain ⟨A103, ht104, h105, hH106⟩ := Hp.freeze (Dw := Dw) (α := Int) (v := v90) (l := x89) hH (i := 0) rfl hA
   replace h79 := Sl.tr h79 ht104
   replace hr50 := Tr.trans hr50 ht104
   replace hB := Nat.le_trans hB ht104.ex.size
   replace hA := ht104.new
   replace hH : Hp w.heap.size A103 w92 (obC b34 [v63, v65] 51 :: obC b7 [.slice none 0 0, .slice none 0 0] 51 :: []) := hH106
   have h113 : (v78).oneCell' = true := by obtain ⟨_, _, e, _⟩ := Sl.form h79; rw [e]; rfl
   have h116 : (v90).oneCell' = true := by obtain ⟨_, _, e, _⟩ := Sl.form h105; rw [e]; rfl
   refine V_storeC (Dw := Dw) (off := 0) (ds := [v78, v90]) hH (i := 0) rfl Tryd.sizeOf51 rfl (Nat.le_of_ble_eq_true rfl) (by exact (List.forall_mem_cons.2 ⟨h113, (List.forall_mem_cons.2 ⟨h116, (fun _ h => nomatch h)⟩)⟩)) rfl hB hA rfl rfl ?_
   intro w108 hH109 ht110
   replace h79 := Sl.tr h79 ht110
   replace h105 := Sl.tr h105 ht110
   replace hr50 := Tr.trans hr50 ht110
   replace hH : Hp w.heap.size A103 w108 (obC b34 [v78, v90] 51 :: obC b7 [.slice none 0 0, .slice none 0 0] 51 :: []) := hH109
   refine V_to (fun _ _ => rfl) ?_
   refine C_region ?_
   refine V_y (Y_addI rfl rfl) rfl rfl rfl ?_
   refine V_mv rfl rfl ?_
   obtain rfl := Option.some.inj h70
   refine V_end (fun a ha117 => ?_)
   exact ⟨(w64 (s61.1 + 1), (⟨x77, x89⟩ : staff_ratio)), h71, ⟨(v78, v90, A103), ha117.sub ⟨rfl, rfl, rfl, rfl, rfl, rfl, trivial⟩, ⟨h79, h105, hH, hr50⟩⟩⟩
  ·rw [if_neg (nt hc76)] at h70
   obtain rfl := Option.some.inj h70
   refine C_exit (fun a ha118 => ?_)
   exact ⟨((s61.1, s61.2), v63, v65, A67), ha118.sub ⟨rfl, rfl, trivial⟩, ⟨h71.symm, h64, h66, hH, hr50⟩⟩
 rintro ⟨s49, v55, v57, A59⟩ w52 ⟨rfl, h56, h58, hH60, hk53⟩ a ha54
 rw [Lp.andThen_fin] at hm
 replace hK := Tr.trans hK hk53
 replace hB := Nat.le_trans hB hk53.ex.size
 replace hA := hk53.new
 replace hH : Hp w.heap.size A59 w52 (obC b34 [v55, v57] 51 :: obC b7 [.slice none 0 0, .slice none 0 0] 51 :: []) := hH60
 refine C_at (n := ⟨39, [], none⟩) (fun _ _ => rfl) ?_ ha54
 refine C_seq ?_
 refine C_region ?_
 refine V_y (Y_loadA (Hp.part (off := 0) (n := 2) (ds := [v55, v57]) hH (i := 0) rfl rfl) Tryd.isAgg51 Tryd.sizeOf51 rfl) rfl rfl rfl ?_
 have h125 : (v55).oneCell' = true := by obtain ⟨_, _, e, _⟩ := Sl.form h56; rw [e]; rfl
 have h128 : (v57).oneCell' = true := by obtain ⟨_, _, e, _⟩ := Sl.form h58; rw [e]; rfl
 refine V_storeC (Dw := Dw) (off := 0) (ds := [v55, v57]) hH (i := 1) rfl Tryd.sizeOf51 rfl (Nat.le_of_ble_eq_true rfl) (by exact (List.forall_mem_cons.2 ⟨h125, (List.forall_mem_cons.2 ⟨h128, (fun _ h => nomatch h)⟩)⟩)) rfl hB hA rfl rfl ?_
 intro w120 hH121 ht122
 replace h56 := Sl.tr h56 ht122
 replace h58 := Sl.tr h58 ht122
 replace hK := Tr.trans hK ht122
 replace hH : Hp w.heap.size A59 w120 (obC b34 [v55, v57] 51 :: obC b7 [v55, v57] 51 :: []) := hH121
 refine V_to (fun _ _ => rfl) ?_
 obtain rfl := Option.some.inj hm
 refine C_ret ?_
 try simp only [↓inBlock_ret, ↓then_ret]
 exact retQ rfl (Res.l1 Tryd.results20 (RL.cell rfl (loadVar_agg (Hp.part (off := 0) (n := 2) (ds := [v55, v57]) hH (i := 1) rfl rfl) Tryd.isAgg51 Tryd.sizeOf51))) ⟨v55, v57, rfl, (Sl.out (Dw := Dw) h56 hA0 hK), (Sl.out (Dw := Dw) h58 hA0 hK), hK.kp⟩

set_option maxRecDepth 4000 in
set_option maxHeartbeats 4000000 in
theorem staff_Blocked_c (w : World) {A : Nat → Prop} (hA : ∀ b, w.heap.size ≤ b → A b) (hT : Tb Tryd.prog A w) (l : staff_Load) (n : Int) {r : (staff_Ratio × Int)} (hm : staff_Blocked l n = some r) : Ret Tryd.prog 6 #[.agg #[.int .i64 l.calls, .int .i64 l.length, .int .i64 l.span], .int .i64 n] w fun v w' => v = .tuple #[.agg #[.string r.1.num, .string r.1.den], .int .i64 r.2] ∧ Kp False w w' := by
 unfold staff_Blocked at hm
 refine enter Tryd.func6 rfl Tryd.ntmps6 rfl ?_
 have hA0 := hA
 have hB := Nat.le_refl w.heap.size
 have hK : Tr False w.heap.size A w A w := Tr.refl (Dw := False) hA
 have hH : Hp w.heap.size A w [] := Hp.nil
 refine C_seq ?_
 refine C_region ?_
 refine V_box rfl rfl ?_
 intro b1 w2 h3
 have hk5 := h3.kp (Dw := False)
 have h4 : El (α := staff_Load) A w2 b1 0 l := h3.el hA ⟨[.int .i64 l.calls], _, rfl, rfl, ⟨[.int .i64 l.length], _, rfl, rfl, rfl⟩⟩
 have ht6 := Kp.tr (Dw := False) hk5 hA hB
 replace hH := Hp.kp (Dw := False) hH hk5
 replace hK := Tr.trans (Dw := False) hK ht6
 replace hB := Nat.le_trans hB ht6.ex.size
 replace hA := ht6.new
 refine V_allocH (Dw := False) (B := w.heap.size) hH Tryd.zeroValue25 hB hA rfl ?_
 intro b7 w9 A10 hH11 ht12
 replace h4 := El.tr (Dw := False) h4 ht12
 replace hK := Tr.trans (Dw := False) hK ht12
 replace hB := Nat.le_trans hB ht12.ex.size
 replace hA := ht12.new
 replace hH : Hp w.heap.size A10 w9 (obC b7 [.string ByteArray.empty, .string ByteArray.empty] 25 :: []) := hH11
 refine V_as rfl rfl ?_
 refine V_to (fun _ _ => rfl) ?_
 refine C_seq ?_
 refine C_seq ?_
 refine C_region ?_
 obtain ⟨h13, _⟩ := El_staff_Load h4
 refine V_y (Y_loadA h13 Tryd.isAgg23 Tryd.sizeOf23 rfl) rfl rfl rfl ?_
 obtain ⟨x14, hx14, hm⟩ := Option.bind_eq_some_iff.1 hm
 refine V_call Tryd.call9 rfl rfl rfl rfl (staff_checkLoad_c (Dw := False) w9 hA l hx14) ?_
 rintro _ w15 ⟨rfl, hk16⟩
 have ht17 := Kp.tr (Dw := False) hk16 hA hB
 replace hH := Hp.kp (Dw := False) hH hk16
 replace h4 := El.tr (Dw := False) h4 ht17
 replace hK := Tr.trans (Dw := False) hK ht17
 replace hB := Nat.le_trans hB ht17.ex.size
 replace hA := ht17.new
 refine V_mv rfl rfl ?_
 refine V_call Tryd.call19 rfl rfl rfl rfl (staff_checkPeople_c w15 n) ?_
 rintro _ _ ⟨rfl, rfl⟩
 refine V_buildSlice (Dw := False) (cells := #[.int .i64 x14, .int .i64 (staff_checkPeople n)]) (l := ([x14, (staff_checkPeople n)] : List Int)) (len := 2) Tryd.underlying66 Tryd.sizeOf26 Tryd.zeroValue26 rfl (by generalize ((staff_checkPeople n) : Int) = z22; kernel_rfl) (show (2 * 1 : Nat) ≠ 0 by decide) (show (2 * 1 : Nat) ≤ 2 ^ 24 by decide) hA ⟨[.int .i64 x14], _, rfl, rfl, ⟨[.int .i64 (staff_checkPeople n)], _, rfl, rfl, rfl⟩⟩ rfl rfl ?_
 intro v18 w19 hk21 h20
 have ht23 := Kp.tr (Dw := False) hk21 hA hB
 replace hH := Hp.kp (Dw := False) hH hk21
 replace h4 := El.tr (Dw := False) h4 ht23
 replace hK := Tr.trans (Dw := False) hK ht23
 replace hB := Nat.le_trans hB ht23.ex.size
 replace hA := ht23.new
 obtain ⟨x24, hx24, hm⟩ := Option.bind_eq_some_iff.1 hm
 refine V_call Tryd.call18 rfl rfl rfl rfl (cmp_Or_api_Errno_c w19 ([x14, (staff_checkPeople n)] : List Int) v18 h20 hx24) ?_
 rintro _ _ ⟨rfl, rfl⟩
 refine V_as rfl rfl ?_
 refine V_to (fun _ _ => rfl) ?_
 refine C_seq ?_
 refine C_region ?_
 refine V_mv rfl rfl ?_
 refine V_y (Y_neq rfl rfl) rfl rfl rfl ?_
 refine V_to (fun _ _ => rfl) ?_
 refine C_cond rfl (fun hc25 => ?_) (fun hc25 => ?_)
 ·rw [if_pos hc25] at hm
  refine C_seq ?_
  refine C_region ?_
  refine V_y (Y_build Tryd.underlying25 Tryd.zeroValue25 (Tryd_places25 _ Tryd.underlying25) rfl (by with_unfolding_all rfl)) rfl rfl rfl ?_
  refine V_mv rfl rfl ?_
  refine V_storeC (Dw := False) (off := 0) (ds := [.string ByteArray.empty, .string ByteArray.empty]) hH (i := 0) rfl Tryd.sizeOf25 rfl (Nat.le_of_ble_eq_true rfl) (by simp [Value.cells, Value.oneCell']) rfl hB hA rfl rfl ?_
  intro w26 hH27 ht28
  replace hK := Tr.trans (Dw := False) hK ht28
  replace hH : Hp w.heap.size A10 w26 (obC b7 [.string ByteArray.empty, .string ByteArray.empty] 25 :: []) := hH27
  refine V_as rfl rfl ?_
  refine V_to (fun _ _ => rfl) ?_
  obtain rfl := Option.some.inj hm
  refine C_ret ?_
  try simp only [↓inBlock_ret, ↓then_ret]
  exact retQ rfl (Res.l2 Tryd.results6 (RL.cell rfl (loadVar_agg (Hp.part (off := 0) (n := 2) (ds := [.string ByteArray.empty, .string ByteArray.empty]) hH (i := 0) rfl rfl) Tryd.isAgg25 Tryd.sizeOf25)) (RL.tmp rfl)) ⟨rfl, hK.kp⟩
 ·rw [if_neg (nt hc25)] at hm
  refine C_skip_to (fun _ _ => rfl) ?_
  refine C_seq ?_
  refine C_region ?_
  obtain ⟨h29, _⟩ := El_staff_Load h4
  refine V_y (Y_loadA h29 Tryd.isAgg23 Tryd.sizeOf23 rfl) rfl rfl rfl ?_
  refine V_mv rfl rfl ?_
  obtain ⟨x30, hx30, hm⟩ := Option.bind_eq_some_iff.1 hm
  refine V_call Tryd.call20 rfl rfl rfl rfl (staff_Load_blocked_c (Dw := False) w19 hA l n hx30) ?_
  rintro _ w35 ⟨v31, v33, rfl, h32, h34, hk36⟩
  have ht37 := Kp.tr (Dw := False) hk36 hA hB
  replace hH := Hp.kp (Dw := False) hH hk36
  replace hK := Tr.trans (Dw := False) hK ht37
  replace hB := Nat.le_trans hB ht37.ex.size
  replace hA := ht37.new
  refine V_alloc Tryd.zeroValue51 rfl ?_
  intro b38 w39 h40
  have h45 : (v31).oneCell' = true := by obtain ⟨_, _, e, _⟩ := Sl.form h32; rw [e]; rfl
  have h48 : (v33).oneCell' = true := by obtain ⟨_, _, e, _⟩ := Sl.form h34; rw [e]; rfl
  refine V_storeNew h40 Tryd.sizeOf51 rfl rfl rfl rfl (by exact (List.forall_mem_cons.2 ⟨h45, (List.forall_mem_cons.2 ⟨h48, (fun _ h => nomatch h)⟩)⟩)) ?_
  intro w41 h42
  have hk50 := h42.kp (Dw := False)
  have h49 : El (α := staff_ratio) A10 w41 b38 0 x30 := h42.el hA ⟨[v31], _, rfl, ⟨_, rfl, h32⟩, ⟨_, rfl, h34⟩⟩
  have ht51 := Kp.tr (Dw := False) hk50 hA hB
  replace hH := Hp.kp (Dw := False) hH hk50
  replace hK := Tr.trans (Dw := False) hK ht51
  replace hB := Nat.le_trans hB ht51.ex.size
  replace hA := ht51.new
  refine V_to (fun _ _ => rfl) ?_
  refine C_seq ?_
  refine C_region ?_
  have h52 := El_staff_ratio_0 h49
  refine V_y (Y_fieldAddr Tryd.underlying51 rfl Tryd.sizeOf49 (by decide) rfl) rfl rfl rfl ?_
  obtain ⟨v53, h54, h55⟩ := El.list h52
  refine V_y (Y_load h54 Tryd.isAgg49 rfl) rfl rfl rfl ?_
  have h56 := El_staff_ratio_1 h49
  refine V_y (Y_fieldAddr Tryd.underlying51 rfl Tryd.sizeOf49 (by decide) rfl) rfl rfl rfl ?_
  obtain ⟨v57, h58, h59⟩ := El.list h56
  refine V_y (Y_load h58 Tryd.isAgg49 rfl) rfl rfl rfl ?_
  obtain ⟨x60, hx60, hm⟩ := Option.bind_eq_some_iff.1 hm
  refine V_call Tryd.call21 rfl rfl rfl rfl (staff_lowest_c (Dw := False) w41 hA x30.num v53 h55 x30.den v57 h59 hx60) ?_
  rintro _ w65 ⟨v61, v63, rfl, h62, h64, hk66⟩
  have ht67 := Kp.tr (Dw := False) hk66 hA hB
  replace hH := Hp.kp (Dw := False) hH hk66
  replace hK := Tr.trans (Dw := False) hK ht67
  replace hB := Nat.le_trans hB ht67.ex.size
  replace hA := ht67.new
  obtain ⟨x68, hx68, hm⟩ := Option.bind_eq_some_iff.1 hm
  refine V_call Tryd.call22 rfl rfl rfl rfl (staff_ratio_written_c w65 hA (Tb.tr (Dw := False) hT hK) x60 v61 h62 v63 h64 hx68) ?_
  rintro _ w69 ⟨rfl, hk70⟩
  have ht71 := Kp.tr (Dw := False) hk70 hA hB
  replace hH := Hp.kp (Dw := False) hH hk70
  replace hK := Tr.trans (Dw := False) hK ht71
  replace hB := Nat.le_trans hB ht71.ex.size
  replace hA := ht71.new
  refine V_storeC (Dw := False) (off := 0) (ds := [.string x68.num, .string x68.den]) hH (i := 0) rfl Tryd.sizeOf25 rfl (Nat.le_of_ble_eq_true rfl) (by simp [Value.cells, Value.oneCell']) rfl hB hA rfl rfl ?_
  intro w72 hH73 ht74
  replace hK := Tr.trans (Dw := False) hK ht74
  replace hH : Hp w.heap.size A10 w72 (obC b7 [.string x68.num, .string x68.den] 25 :: []) := hH73
  refine V_as rfl rfl ?_
  refine V_to (fun _ _ => rfl) ?_
  obtain rfl := Option.some.inj hm
  refine C_ret ?_
  try simp only [↓inBlock_ret, ↓then_ret]
  exact retQ rfl (Res.l2 Tryd.results6 (RL.cell rfl (loadVar_agg (Hp.part (off := 0) (n := 2) (ds := [.string x68.num, .string x68.den]) hH (i := 0) rfl rfl) Tryd.isAgg25 Tryd.sizeOf25)) (RL.tmp rfl)) ⟨rfl, hK.kp⟩

set_option maxRecDepth 4000 in
set_option maxHeartbeats 4000000 in
theorem staff_Load_enough_c (w : World) {A : Nat → Prop} (hA : ∀ b, w.heap.size ≤ b → A b) (l : staff_Load) (n : Int) {r : Bool} (hm : staff_Load_enough l n = some r) : Ret Tryd.prog 43 #[.agg #[.int .i64 l.calls, .int .i64 l.length, .int .i64 l.span], .int .i64 n] w fun v w' => v = .bool r ∧ Kp Dw w w' := by
 unfold staff_Load_enough at hm
 refine enter Tryd.func43 rfl Tryd.ntmps43 rfl ?_
 have hA0 := hA
 have hB := Nat.le_refl w.heap.size
 have hK : Tr Dw w.heap.size A w A w := Tr.refl (Dw := Dw) hA
 have hH : Hp w.heap.size A w [] := Hp.nil
 refine C_seq ?_
 refine C_region ?_
 refine V_box rfl rfl ?_
 intro b1 w2 h3
 have hk5 := h3.kp (Dw := Dw)
 have h4 : El (α := staff_Load) A w2 b1 0 l := h3.el hA ⟨[.int .i64 l.calls], _, rfl, rfl, ⟨[.int .i64 l.length], _, rfl, rfl, rfl⟩⟩
 have ht6 := Kp.tr hk5 hA hB
 replace hK := Tr.trans hK ht6
 replace hB := Nat.le_trans hB ht6.ex.size
 replace hA := ht6.new
 refine V_as rfl rfl ?_
 refine V_to (fun _ _ => rfl) ?_
 refine C_seq ?_
 refine C_region ?_
 obtain ⟨h7, _⟩ := El_staff_Load h4
 refine V_y (Y_loadA h7 Tryd.isAgg23 Tryd.sizeOf23 rfl) rfl rfl rfl ?_
 obtain ⟨x8, hx8, hm⟩ := Option.bind_eq_some_iff.1 hm
 refine V_call Tryd.call11 rfl rfl rfl rfl (staff_Load_offered_c (Dw := Dw) w2 hA l hx8) ?_
 rintro _ w9 ⟨rfl, hk10⟩
 have ht11 := Kp.tr hk10 hA hB
 replace hK := Tr.trans hK ht11
 refine V_mv rfl rfl ?_
 refine V_y (Y_extract rfl rfl) rfl rfl rfl ?_
 refine V_y (Y_extract rfl rfl) rfl rfl rfl ?_
 refine V_as rfl rfl ?_
 refine V_as rfl rfl ?_
 refine V_to (fun _ _ => rfl) ?_
 refine C_seq ?_
 refine C_region ?_
 refine V_mv rfl rfl ?_
 refine V_mv rfl rfl ?_
 refine V_y (Y_mulI rfl rfl) rfl rfl rfl ?_
 refine V_mv rfl rfl ?_
 refine V_y (Y_gtr rfl rfl) rfl rfl rfl ?_
 refine V_as rfl rfl ?_
 refine V_to (fun _ _ => rfl) ?_
 obtain rfl := Option.some.inj hm
 refine C_ret ?_
 try simp only [↓inBlock_ret, ↓then_ret]
 exact retQ rfl (Res.one Tryd.results43 rfl) ⟨rfl, hK.kp⟩

set_option maxRecDepth 4000 in
set_option maxHeartbeats 4000000 in
theorem staff_Load_waits_c (w : World) {A : Nat → Prop} (hA : ∀ b, w.heap.size ≤ b → A b) (l : staff_Load) (n : Int) {r : staff_ratio} (hm : staff_Load_waits l n = some r) : Ret Tryd.prog 23 #[.agg #[.int .i64 l.calls, .int .i64 l.length, .int .i64 l.span], .int .i64 n] w fun v w' => ∃ s0 s1, v = .agg #[s0, s1] ∧ Sl A w' s0 r.num ∧ Sl A w' s1 r.den ∧ Kp Dw w w' := by
 unfold staff_Load_waits at hm
 refine enter Tryd.func23 rfl Tryd.ntmps23 rfl ?_
 have hA0 := hA
 have hB := Nat.le_refl w.heap.size
 have hK : Tr Dw w.heap.size A w A w := Tr.refl (Dw := Dw) hA
 have hH : Hp w.heap.size A w [] := Hp.nil
 refine C_seq ?_
 refine C_region ?_
 refine V_box rfl rfl ?_
 intro b1 w2 h3
 have hk5 := h3.kp (Dw := Dw)
 have h4 : El (α := staff_Load) A w2 b1 0 l := h3.el hA ⟨[.int .i64 l.calls], _, rfl, rfl, ⟨[.int .i64 l.length], _, rfl, rfl, rfl⟩⟩
 have ht6 := Kp.tr hk5 hA hB
 replace hH := Hp.kp hH hk5
 replace hK := Tr.trans hK ht6
 replace hB := Nat.le_trans hB ht6.ex.size
 replace hA := ht6.new
 refine V_allocH (Dw := Dw) (B := w.heap.size) hH Tryd.zeroValue51 hB hA rfl ?_
 intro b7 w9 A10 hH11 ht12
 replace h4 := El.tr h4 ht12
 replace hK := Tr.trans hK ht12
 replace hB := Nat.le_trans hB ht12.ex.size
 replace hA := ht12.new
 replace hH : Hp w.heap.size A10 w9 (obC b7 [.slice none 0 0, .slice none 0 0] 51 :: []) := hH11
 refine V_to (fun _ _ => rfl) ?_
 refine C_seq ?_
 refine C_seq ?_
 refine C_region ?_
 have h13 := El_staff_Load_0 h4
 refine V_y (Y_fieldAddr Tryd.underlying23 rfl Tryd.sizeOf3 (by decide) rfl) rfl rfl rfl ?_
 refine V_y (Y_load (El.int h13) Tryd.isAgg3 rfl) rfl rfl rfl ?_
 refine V_y (Y_eql rfl rfl) rfl rfl rfl ?_
 refine V_to (fun _ _ => rfl) ?_
 refine C_cond rfl (fun hc14 => ?_) (fun hc14 => ?_)
 ·rw [if_pos hc14] at hm
  refine C_seq ?_
  refine C_region ?_
  refine V_buildSlice (Dw := Dw) (l := ([1] : List Int)) (len := 1) Tryd.underlying49 Tryd.sizeOf3 Tryd.zeroValue3 rfl (by with_unfolding_all rfl) (show (1 * 1 : Nat) ≠ 0 by decide) (show (1 * 1 : Nat) ≤ 2 ^ 24 by decide) hA ⟨[.int .i64 1], _, rfl, rfl, rfl⟩ rfl rfl ?_
  intro v15 w17 hk19 h18
  have ht20 := Kp.tr hk19 hA hB
  replace hH := Hp.kp hH hk19
  replace hK := Tr.trans hK ht20
  replace hB := Nat.le_trans hB ht20.ex.size
  replace hA := ht20.new
  refine V_y (Y_build (cells := #[.slice none 0 0, v15]) Tryd.underlying51 Tryd.zeroValue51 (Tryd_places51 _ Tryd.underlying51) rfl (by obtain ⟨a21, c22, e23, _⟩ := Sl.form h18; subst e23; with_unfolding_all rfl)) rfl rfl rfl ?_
  have h29 : (v15).oneCell' = true := by obtain ⟨_, _, e, _⟩ := Sl.form h18; rw [e]; rfl
  refine V_storeC (Dw := Dw) (off := 0) (ds := [.slice none 0 0, v15]) hH (i := 0) rfl Tryd.sizeOf51 rfl (Nat.le_of_ble_eq_true rfl) (by exact (List.forall_mem_cons.2 ⟨rfl, (List.forall_mem_cons.2 ⟨h29, (fun _ h => nomatch h)⟩)⟩)) rfl hB hA rfl rfl ?_
  intro w24 hH25 ht26
  replace h18 := Sl.tr h18 ht26
  replace hK := Tr.trans hK ht26
  replace hH : Hp w.heap.size A10 w24 (obC b7 [.slice none 0 0, v15] 51 :: []) := hH25
  refine V_to (fun _ _ => rfl) ?_
  obtain rfl := Option.some.inj hm
  refine C_ret ?_
  try simp only [↓inBlock_ret, ↓then_ret]
  exact retQ rfl (Res.l1 Tryd.results23 (RL.cell rfl (loadVar_agg (Hp.part (off := 0) (n := 2) (ds := [.slice none 0 0, v15]) hH (i := 0) rfl rfl) Tryd.isAgg51 Tryd.sizeOf51))) ⟨.slice none 0 0, v15, rfl, Sl.nil, (Sl.out (Dw := Dw) h18 hA0 hK), hK.kp⟩
 ·rw [if_neg (nt hc14)] at hm
  refine C_skip_to (fun _ _ => rfl) ?_
  refine C_seq ?_
  refine C_seq ?_
  refine C_region ?_
  obtain ⟨h30, _⟩ := El_staff_Load h4
  refine V_y (Y_loadA h30 Tryd.isAgg23 Tryd.sizeOf23 rfl) rfl rfl rfl ?_
  refine V_mv rfl rfl ?_
  obtain ⟨x31, hx31, hm⟩ := Option.bind_eq_some_iff.1 hm
  refine V_call Tryd.call43 rfl rfl rfl rfl (staff_Load_enough_c (Dw := Dw) w9 hA l n hx31) ?_
  rintro _ w33 ⟨rfl, hk34⟩
  have ht35 := Kp.tr hk34 hA hB
  replace hH := Hp.kp hH hk34
  replace h4 := El.tr h4 ht35
  replace hK := Tr.trans hK ht35
  replace hB := Nat.le_trans hB ht35.ex.size
  replace hA := ht35.new
  refine V_y (Y_not rfl) rfl rfl rfl ?_
  refine V_to (fun _ _ => rfl) ?_
  refine C_cond rfl (fun hc36 => ?_) (fun hc36 => ?_)
  ·rw [if_pos hc36] at hm
   refine C_seq ?_
   refine C_region ?_
   refine V_buildSlice (Dw := Dw) (l := ([1] : List Int)) (len := 1) Tryd.underlying49 Tryd.sizeOf3 Tryd.zeroValue3 rfl (by with_unfolding_all rfl) (show (1 * 1 : Nat) ≠ 0 by decide) (show (1 * 1 : Nat) ≤ 2 ^ 24 by decide) hA ⟨[.int .i64 1], _, rfl, rfl, rfl⟩ rfl rfl ?_
   intro v37 w38 hk40 h39
   have ht41 := Kp.tr hk40 hA hB
   replace hH := Hp.kp hH hk40
   replace hK := Tr.trans hK ht41
   replace hB := Nat.le_trans hB ht41.ex.size
   replace hA := ht41.new
   refine V_buildSlice (Dw := Dw) (l := ([1] : List Int)) (len := 1) Tryd.underlying49 Tryd.sizeOf3 Tryd.zeroValue3 rfl (by with_unfolding_all rfl) (show (1 * 1 : Nat) ≠ 0 by decide) (show (1 * 1 : Nat) ≤ 2 ^ 24 by decide) hA ⟨[.int .i64 1], _, rfl, rfl, rfl⟩ rfl rfl ?_
   intro v42 w43 hk45 h44
   have ht46 := Kp.tr hk45 hA hB
   replace hH := Hp.kp hH hk45
   replace h39 := Sl.tr h39 ht46
   replace hK := Tr.trans hK ht46
   replace hB := Nat.le_trans hB ht46.ex.size
   replace hA := ht46.new
   refine V_y (Y_build (cells := #[v37, v42]) Tryd.underlying51 Tryd.zeroValue51 (Tryd_places51 _ Tryd.underlying51) rfl (by obtain ⟨a47, c48, e49, _⟩ := Sl.form h39; subst e49; obtain ⟨a50, c51, e52, _⟩ := Sl.form h44; subst e52; with_unfolding_all rfl)) rfl rfl rfl ?_
   have h58 : (v37).oneCell' = true := by obtain ⟨_, _, e, _⟩ := Sl.form h39; rw [e]; rfl
   have h61 : (v42).oneCell' = true := by obtain ⟨_, _, e, _⟩ := Sl.form h44; rw [e]; rfl
   refine V_storeC (Dw := Dw) (off := 0) (ds := [v37, v42]) hH (i := 0) rfl Tryd.sizeOf51 rfl (Nat.le_of_ble_eq_true rfl) (by exact (List.forall_mem_cons.2 ⟨h58, (List.forall_mem_cons.2 ⟨h61, (fun _ h => nomatch h)⟩)⟩)) rfl hB hA rfl rfl ?_
   intro w53 hH54 ht55
   replace h39 := Sl.tr h39 ht55
   replace h44 := Sl.tr h44 ht55
   replace hK := Tr.trans hK ht55
   replace hH : Hp w.heap.size A10 w53 (obC b7 [v37, v42] 51 :: []) := hH54
   refine V_to (fun _ _ => rfl) ?_
   obtain rfl := Option.some.inj hm
   refine C_ret ?_
   try simp only [↓inBlock_ret, ↓then_ret]
   exact retQ rfl (Res.l1 Tryd.results23 (RL.cell rfl (loadVar_agg (Hp.part (off := 0) (n := 2) (ds := [v37, v42]) hH (i := 0) rfl rfl) Tryd.isAgg51 Tryd.sizeOf51))) ⟨v37, v42, rfl, (Sl.out (Dw := Dw) h39 hA0 hK), (Sl.out (Dw := Dw) h44 hA0 hK), hK.kp⟩
  ·rw [if_neg (nt hc36)] at hm
   refine C_skip_to (fun _ _ => rfl) ?_
   refine C_seq ?_
   refine C_region ?_
   obtain ⟨h62, _⟩ := El_staff_Load h4
   refine V_y (Y_loadA h62 Tryd.isAgg23 Tryd.sizeOf23 rfl) rfl rfl rfl ?_
   obtain ⟨x63, hx63, hm⟩ := Option.bind_eq_some_iff.1 hm
   refine V_call Tryd.call11 rfl rfl rfl rfl (staff_Load_offered_c (Dw := Dw) w33 hA l hx63) ?_
   rintro _ w65 ⟨rfl, hk66⟩
   have ht67 := Kp.tr hk66 hA hB
   replace hH := Hp.kp hH hk66
   replace h4 := El.tr h4 ht67
   replace hK := Tr.trans hK ht67
   replace hB := Nat.le_trans hB ht67.ex.size
   replace hA := ht67.new
   refine V_mv rfl rfl ?_
   refine V_y (Y_extract rfl rfl) rfl rfl rfl ?_
   refine V_y (Y_extract rfl rfl) rfl rfl rfl ?_
   refine V_as rfl rfl ?_
   refine V_as rfl rfl ?_
   refine V_to (fun _ _ => rfl) ?_
   refine C_seq ?_
   refine C_region ?_
   obtain ⟨h68, _⟩ := El_staff_Load h4
   refine V_y (Y_loadA h68 Tryd.isAgg23 Tryd.sizeOf23 rfl) rfl rfl rfl ?_
   refine V_mv rfl rfl ?_
   obtain ⟨x69, hx69, hm⟩ := Option.bind_eq_some_iff.1 hm
   refine V_call Tryd.call20 rfl rfl rfl rfl (staff_Load_blocked_c (Dw := Dw) w65 hA l n hx69) ?_
   rintro _ w74 ⟨v70, v72, rfl, h71, h73, hk75⟩
   have ht76 := Kp.tr hk75 hA hB
   replace hH := Hp.kp hH hk75
   replace hK := Tr.trans hK ht76
   replace hB := Nat.le_trans hB ht76.ex.size
   replace hA := ht76.new
   refine V_alloc Tryd.zeroValue51 rfl ?_
   intro b77 w78 h79
   have h84 : (v70).oneCell' = true := by obtain ⟨_, _, e, _⟩ := Sl.form h71; rw [e]; rfl
   have h87 : (v72).oneCell' = true := by obtain ⟨_, _, e, _⟩ := Sl.form h73; rw [e]; rfl
   refine V_storeNew h79 Tryd.sizeOf51 rfl rfl rfl rfl (by exact (List.forall_mem_cons.2 ⟨h84, (List.forall_mem_cons.2 ⟨h87, (fun _ h => nomatch h)⟩)⟩)) ?_
   intro w80 h81
   have hk89 := h81.kp (Dw := Dw)
   have h88 : El (α := staff_ratio) A10 w80 b77 0 x69 := h81.el hA ⟨[v70], _, rfl, ⟨_, rfl, h71⟩, ⟨_, rfl, h73⟩⟩
   have ht90 := Kp.tr hk89 hA hB
   replace hH := Hp.kp hH hk89
   replace hK := Tr.trans hK ht90
   replace hB := Nat.le_trans hB ht90.ex.size
   replace hA := ht90.new
   refine V_to (fun _ _ => rfl) ?_
   refine C_seq ?_
   refine C_region_ch (Dw := Dw) A10 21 [(1, 0), (1, 1), (1, 2), (1, 3), (1, 4), (1, 6), (1, 7), (1, 8), (1, 9), (1, 10), (1, 11), (1, 12), (1, 14), (1, 15), (1, 16), (2, 5), (2, 13), (2, 17), (2, 18), (1, 19), (4, 20)] Tryd_mixed (by kernel_rfl) (fun w91 hk92 => ?_)
   have ht93 := Kp.tr hk92 hA hB
   replace hH := Hp.kp hH hk92
   replace h88 := El.tr h88 ht93
   replace hK := Tr.trans hK ht93
   replace hB := Nat.le_trans hB ht93.ex.size
   replace hA := ht93.new
   refine CH_q2 (Dw := Dw) rfl ?_
   have h94 := El_staff_ratio_0 h88
   refine VQ_y (fun w' hw' => Y_fieldAddr Tryd.underlying51 rfl Tryd.sizeOf49 (by decide) rfl) rfl rfl rfl ?_
   refine VQ_CH (Dw := Dw) ?_
   refine CH_q2 (Dw := Dw) rfl ?_
   obtain ⟨v95, h96, h97⟩ := El.list h94
   refine VQ_y (fun w' hw' => Y_load ((World.cell?_of_block (hw'.2 _ h94.2.1 h94.1)).trans h96) Tryd.isAgg49 rfl) rfl rfl rfl ?_
   refine VQ_CH (Dw := Dw) ?_
   refine CH_q2 (Dw := Dw) rfl ?_
   refine VQ_y (fun w' hw' => Y_move rfl) rfl rfl rfl ?_
   refine VQ_CH (Dw := Dw) ?_
   refine CH_q2 (Dw := Dw) rfl ?_
   refine VQ_y (fun w' hw' => Y_move rfl) rfl rfl rfl ?_
   refine VQ_CH (Dw := Dw) ?_
   refine CH_q2 (Dw := Dw) rfl ?_
   refine VQ_y (fun w' hw' => Y_mulI rfl rfl) rfl rfl rfl ?_
   refine VQ_CH (Dw := Dw) ?_
   refine CH_q2 (Dw := Dw) rfl ?_
   have h98 := El_staff_ratio_1 h88
   refine VQ_y (fun w' hw' => Y_fieldAddr Tryd.underlying51 rfl Tryd.sizeOf49 (by decide) rfl) rfl rfl rfl ?_
   refine VQ_CH (Dw := Dw) ?_
   refine CH_q2 (Dw := Dw) rfl ?_
   obtain ⟨v99, h100, h101⟩ := El.list h98
   refine VQ_y (fun w' hw' => Y_load ((World.cell?_of_block (hw'.2 _ h98.2.1 h98.1)).trans h100) Tryd.isAgg49 rfl) rfl rfl rfl ?_
   refine VQ_CH (Dw := Dw) ?_
   refine CH_q2 (Dw := Dw) rfl ?_
   refine VQ_y (fun w' hw' => Y_move rfl) rfl rfl rfl ?_
   refine VQ_CH (Dw := Dw) ?_
   refine CH_q2 (Dw := Dw) rfl ?_
   refine VQ_y (fun w' hw' => Y_move rfl) rfl rfl rfl ?_
   refine VQ_CH (Dw := Dw) ?_
   refine CH_q2 (Dw := Dw) rfl ?_
   refine VQ_y (fun w' hw' => Y_mulI rfl rfl) rfl rfl rfl ?_
   refine VQ_CH (Dw := Dw) ?_
   refine CH_q2 (Dw := Dw) rfl ?_
   refine VQ_y (fun w' hw' => Y_move rfl) rfl rfl rfl ?_
   refine VQ_CH (Dw := Dw) ?_
   refine CH_q2 (Dw := Dw) rfl ?_
   refine VQ_y (fun w' hw' => Y_subI rfl rfl) rfl rfl rfl ?_
   refine VQ_CH (Dw := Dw) ?_
   refine CH_q2 (Dw := Dw) rfl ?_
   have h102 := El_staff_ratio_0 h88
   refine VQ_y (fun w' hw' => Y_fieldAddr Tryd.underlying51 rfl Tryd.sizeOf49 (by decide) rfl) rfl rfl rfl ?_
   refine VQ_CH (Dw := Dw) ?_
   refine CH_q2 (Dw := Dw) rfl ?_
   obtain ⟨v103, h104, h105⟩ := El.list h102
   refine VQ_y (fun w' hw' => Y_load ((World.cell?_of_block (hw'.2 _ h102.2.1 h102.1)).trans h104) Tryd.isAgg49 rfl) rfl rfl rfl ?_
   refine VQ_CH (Dw := Dw) ?_
   refine CH_q2 (Dw := Dw) rfl ?_
   refine VQ_y (fun w' hw' => Y_move rfl) rfl rfl rfl ?_
   refine VQ_CH (Dw := Dw) ?_
   refine CH_l1 (Dw := Dw) (k := 0) rfl ?_
   obtain ⟨x106, hx106, hm⟩ := Option.bind_eq_some_iff.1 hm
   refine V_call Tryd.call38 rfl rfl rfl rfl (staff_nat_small_c (Dw := Dw) w91 hA x69.num v95 h97 (w64 (n * x63.2)) hx106) ?_
   rintro v107 w109 ⟨_, rfl, h108, hk110⟩
   have ht111 := Kp.tr hk110 hA hB
   replace hH := Hp.kp hH hk110
   replace h101 := Sl.tr h101 ht111
   replace h105 := Sl.tr h105 ht111
   replace hK := Tr.trans hK ht111
   replace hB := Nat.le_trans hB ht111.ex.size
   replace hA := ht111.new
   refine V_CH (Dw := Dw) (hk110) ?_
   refine CH_l1 (Dw := Dw) (k := 0) rfl ?_
   obtain ⟨x112, hx112, hm⟩ := Option.bind_eq_some_iff.1 hm
   refine V_call Tryd.call38 rfl rfl rfl rfl (staff_nat_small_c (Dw := Dw) w109 hA x69.den v99 h101 (w64 ((w64 (n * x63.2)) - x63.1)) hx112) ?_
   rintro v113 w115 ⟨_, rfl, h114, hk116⟩
   have ht117 := Kp.tr hk116 hA hB
   replace hH := Hp.kp hH hk116
   replace h105 := Sl.tr h105 ht117
   replace h108 := Sl.tr h108 ht117
   replace hK := Tr.trans hK ht117
   replace hB := Nat.le_trans hB ht117.ex.size
   replace hA := ht117.new
   refine V_CH (Dw := Dw) (hk116) ?_
   refine CH_l1 (Dw := Dw) (k := 0) rfl ?_
   obtain ⟨x118, hx118, hm⟩ := Option.bind_eq_some_iff.1 hm
   refine V_call Tryd.call38 rfl rfl rfl rfl (staff_nat_small_c (Dw := Dw) w115 hA x69.num v103 h105 x63.1 hx118) ?_
   rintro v119 w121 ⟨_, rfl, h120, hk122⟩
   have ht123 := Kp.tr hk122 hA hB
   replace hH := Hp.kp hH hk122
   replace h108 := Sl.tr h108 ht123
   replace h114 := Sl.tr h114 ht123
   replace hK := Tr.trans hK ht123
   replace hB := Nat.le_trans hB ht123.ex.size
   replace hA := ht123.new
   refine V_CH (Dw := Dw) (hk122) ?_
   refine CH_l1 (Dw := Dw) (k := 0) rfl ?_
   obtain ⟨x124, hx124, hm⟩ := Option.bind_eq_some_iff.1 hm
   refine V_call Tryd.call39 rfl rfl rfl rfl (staff_nat_plus_c (Dw := Dw) w121 hA x112 v113 h114 x118 v119 h120 hx124) ?_
   rintro v125 w127 ⟨_, rfl, h126, hk128⟩
   obtain ⟨A129, ht130, hH131⟩ := Hp.addOwnd (Dw := Dw) hH hB hA hk128 h126
   replace h108 := Sl.tr h108 ht130
   replace hK := Tr.trans hK ht130
   replace hB := Nat.le_trans hB ht130.ex.size
   replace hA := ht130.new
   replace hH : Hp w.heap.size A129 w127 (obS (α := Int) 3 v125 x124 :: obC b7 [.slice none 0 0, .slice none 0 0] 51 :: []) := hH131
   refine V_CH (Dw := Dw) (hk128) ?_
   refine CH_q2 (Dw := Dw) rfl ?_
   refine VQ_y (fun w' hw' => Y_build (cells := #[v107, v125]) Tryd.underlying51 Tryd.zeroValue51 (Tryd_places51 _ Tryd.underlying51) rfl (by obtain ⟨a132, c133, e134, _⟩ := Sl.form h108; subst e134; obtain ⟨a135, c136, e137, _⟩ := Hp.form (α := Int) (e := 3) (v := v125) (l := x124) hH (i := 0) rfl; subst e137; with_unfolding_all rfl)) rfl rfl rfl ?_
   refine VQ_CH (Dw := Dw) ?_
   refine CH_l1 (Dw := Dw) (k := 2) rfl ?_
   obtain ⟨A138, ht139, h140, hH141⟩ := Hp.freeze (Dw := Dw) (α := Int) (v := v125) (l := x124) hH (i := 0) rfl hA
   replace h108 := Sl.tr h108 ht139
   replace hK := Tr.trans hK ht139
   replace hB := Nat.le_trans hB ht139.ex.size
   replace hA := ht139.new
   replace hH : Hp w.heap.size A138 w127 (obC b7 [.slice none 0 0, .slice none 0 0] 51 :: []) := hH141
   have h148 : (v107).oneCell' = true := by obtain ⟨_, _, e, _⟩ := Sl.form h108; rw [e]; rfl
   have h151 : (v125).oneCell' = true := by obtain ⟨_, _, e, _⟩ := Sl.form h140; rw [e]; rfl
   refine V_storeC (Dw := Dw) (off := 0) (ds := [v107, v125]) hH (i := 0) rfl Tryd.sizeOf51 rfl (Nat.le_of_ble_eq_true rfl) (by exact (List.forall_mem_cons.2 ⟨h148, (List.forall_mem_cons.2 ⟨h151, (fun _ h => nomatch h)⟩)⟩)) rfl hB hA rfl rfl ?_
   intro w143 hH144 ht145
   replace h108 := Sl.tr h108 ht145
   replace h140 := Sl.tr h140 ht145
   replace hK := Tr.trans hK ht145
   replace hH : Hp w.heap.size A138 w143 (obC b7 [v107, v125] 51 :: []) := hH144
   refine V_CHw (Dw := Dw) ?_
   refine CH_tail (Dw := Dw) ?_
   show V _ _ _ _ [] _ _
   refine V_to (fun _ _ => rfl) ?_
   obtain rfl := Option.some.inj hm
   refine C_ret ?_
   try simp only [↓inBlock_ret, ↓then_ret]
   exact retQ rfl (Res.l1 Tryd.results23 (RL.cell rfl (loadVar_agg (Hp.part (off := 0) (n := 2) (ds := [v107, v125]) hH (i := 0) rfl rfl) Tryd.isAgg51 Tryd.sizeOf51))) ⟨v107, v125, rfl, (Sl.out (Dw := Dw) h108 hA0 hK), (Sl.out (Dw := Dw) h140 hA0 hK), hK.kp⟩

set_option maxRecDepth 4000 in
set_option maxHeartbeats 4000000 in
theorem staff_Waits_c (w : World) {A : Nat → Prop} (hA : ∀ b, w.heap.size ≤ b → A b) (hT : Tb Tryd.prog A w) (l : staff_Load) (n : Int) {r : (staff_Ratio × Int)} (hm : staff_Waits l n = some r) : Ret Tryd.prog 7 #[.agg #[.int .i64 l.calls, .int .i64 l.length, .int .i64 l.span], .int .i64 n] w fun v w' => v = .tuple #[.agg #[.string r.1.num, .string r.1.den], .int .i64 r.2] ∧ Kp False w w' := by
 unfold staff_Waits at hm
 refine enter Tryd.func7 rfl Tryd.ntmps7 rfl ?_
 have hA0 := hA
 have hB := Nat.le_refl w.heap.size
 have hK : Tr False w.heap.size A w A w := Tr.refl (Dw := False) hA
 have hH : Hp w.heap.size A w [] := Hp.nil
 refine C_seq ?_
 refine C_region ?_
 refine V_box rfl rfl ?_
 intro b1 w2 h3
 have hk5 := h3.kp (Dw := False)
 have h4 : El (α := staff_Load) A w2 b1 0 l := h3.el hA ⟨[.int .i64 l.calls], _, rfl, rfl, ⟨[.int .i64 l.length], _, rfl, rfl, rfl⟩⟩
 have ht6 := Kp.tr (Dw := False) hk5 hA hB
 replace hH := Hp.kp (Dw := False) hH hk5
 replace hK := Tr.trans (Dw := False) hK ht6
 replace hB := Nat.le_trans hB ht6.ex.size
 replace hA := ht6.new
 refine V_allocH (Dw := False) (B := w.heap.size) hH Tryd.zeroValue25 hB hA rfl ?_
 intro b7 w9 A10 hH11 ht12
 replace h4 := El.tr (Dw := False) h4 ht12
 replace hK := Tr.trans (Dw := False) hK ht12
 replace hB := Nat.le_trans hB ht12.ex.size
 replace hA := ht12.new
 replace hH : Hp w.heap.size A10 w9 (obC b7 [.string ByteArray.empty, .string ByteArray.empty] 25 :: []) := hH11
 refine V_as rfl rfl ?_
 refine V_to (fun _ _ => rfl) ?_
 refine C_seq ?_
 refine C_seq ?_
 refine C_region ?_
 obtain ⟨h13, _⟩ := El_staff_Load h4
 refine V_y (Y_loadA h13 Tryd.isAgg23 Tryd.sizeOf23 rfl) rfl rfl rfl ?_
 obtain ⟨x14, hx14, hm⟩ := Option.bind_eq_some_iff.1 hm
 refine V_call Tryd.call9 rfl rfl rfl rfl (staff_checkLoad_c (Dw := False) w9 hA l hx14) ?_
 rintro _ w15 ⟨rfl, hk16⟩
 have ht17 := Kp.tr (Dw := False) hk16 hA hB
 replace hH := Hp.kp (Dw := False) hH hk16
 replace h4 := El.tr (Dw := False) h4 ht17
 replace hK := Tr.trans (Dw := False) hK ht17
 replace hB := Nat.le_trans hB ht17.ex.size
 replace hA := ht17.new
 refine V_mv rfl rfl ?_
 refine V_call Tryd.call19 rfl rfl rfl rfl (staff_checkPeople_c w15 n) ?_
 rintro _ _ ⟨rfl, rfl⟩
 refine V_buildSlice (Dw := False) (cells := #[.int .i64 x14, .int .i64 (staff_checkPeople n)]) (l := ([x14, (staff_checkPeople n)] : List Int)) (len := 2) Tryd.underlying66 Tryd.sizeOf26 Tryd.zeroValue26 rfl (by generalize ((staff_checkPeople n) : Int) = z22; kernel_rfl) (show (2 * 1 : Nat) ≠ 0 by decide) (show (2 * 1 : Nat) ≤ 2 ^ 24 by decide) hA ⟨[.int .i64 x14], _, rfl, rfl, ⟨[.int .i64 (staff_checkPeople n)], _, rfl, rfl, rfl⟩⟩ rfl rfl ?_
 intro v18 w19 hk21 h20
 have ht23 := Kp.tr (Dw := False) hk21 hA hB
 replace hH := Hp.kp (Dw := False) hH hk21
 replace h4 := El.tr (Dw := False) h4 ht23
 replace hK := Tr.trans (Dw := False) hK ht23
 replace hB := Nat.le_trans hB ht23.ex.size
 replace hA := ht23.new
 obtain ⟨x24, hx24, hm⟩ := Option.bind_eq_some_iff.1 hm
 refine V_call Tryd.call18 rfl rfl rfl rfl (cmp_Or_api_Errno_c w19 ([x14, (staff_checkPeople n)] : List Int) v18 h20 hx24) ?_
 rintro _ _ ⟨rfl, rfl⟩
 refine V_as rfl rfl ?_
 refine V_to (fun _ _ => rfl) ?_
 refine C_seq ?_
 refine C_region ?_
 refine V_mv rfl rfl ?_
 refine V_y (Y_neq rfl rfl) rfl rfl rfl ?_
 refine V_to (fun _ _ => rfl) ?_
 refine C_cond rfl (fun hc25 => ?_) (fun hc25 => ?_)
 ·rw [if_pos hc25] at hm
  refine C_seq ?_
  refine C_region ?_
  refine V_y (Y_build Tryd.underlying25 Tryd.zeroValue25 (Tryd_places25 _ Tryd.underlying25) rfl (by with_unfolding_all rfl)) rfl rfl rfl ?_
  refine V_mv rfl rfl ?_
  refine V_storeC (Dw := False) (off := 0) (ds := [.string ByteArray.empty, .string ByteArray.empty]) hH (i := 0) rfl Tryd.sizeOf25 rfl (Nat.le_of_ble_eq_true rfl) (by simp [Value.cells, Value.oneCell']) rfl hB hA rfl rfl ?_
  intro w26 hH27 ht28
  replace hK := Tr.trans (Dw := False) hK ht28
  replace hH : Hp w.heap.size A10 w26 (obC b7 [.string ByteArray.empty, .string ByteArray.empty] 25 :: []) := hH27
  refine V_as rfl rfl ?_
  refine V_to (fun _ _ => rfl) ?_
  obtain rfl := Option.some.inj hm
  refine C_ret ?_
  try simp only [↓inBlock_ret, ↓then_ret]
  exact retQ rfl (Res.l2 Tryd.results7 (RL.cell rfl (loadVar_agg (Hp.part (off := 0) (n := 2) (ds := [.string ByteArray.empty, .string ByteArray.empty]) hH (i := 0) rfl rfl) Tryd.isAgg25 Tryd.sizeOf25)) (RL.tmp rfl)) ⟨rfl, hK.kp⟩
 ·rw [if_neg (nt hc25)] at hm
  refine C_skip_to (fun _ _ => rfl) ?_
  refine C_seq ?_
  refine C_region ?_
  obtain ⟨h29, _⟩ := El_staff_Load h4
  refine V_y (Y_loadA h29 Tryd.isAgg23 Tryd.sizeOf23 rfl) rfl rfl rfl ?_
  refine V_mv rfl rfl ?_
  obtain ⟨x30, hx30, hm⟩ := Option.bind_eq_some_iff.1 hm
  refine V_call Tryd.call23 rfl rfl rfl rfl (staff_Load_waits_c (Dw := False) w19 hA l n hx30) ?_
  rintro _ w35 ⟨v31, v33, rfl, h32, h34, hk36⟩
  have ht37 := Kp.tr (Dw := False) hk36 hA hB
  replace hH := Hp.kp (Dw := False) hH hk36
  replace hK := Tr.trans (Dw := False) hK ht37
  replace hB := Nat.le_trans hB ht37.ex.size
  replace hA := ht37.new
  refine V_alloc Tryd.zeroValue51 rfl ?_
  intro b38 w39 h40
  have h45 : (v31).oneCell' = true := by obtain ⟨_, _, e, _⟩ := Sl.form h32; rw [e]; rfl
  have h48 : (v33).oneCell' = true := by obtain ⟨_, _, e, _⟩ := Sl.form h34; rw [e]; rfl
  refine V_storeNew h40 Tryd.sizeOf51 rfl rfl rfl rfl (by exact (List.forall_mem_cons.2 ⟨h45, (List.forall_mem_cons.2 ⟨h48, (fun _ h => nomatch h)⟩)⟩)) ?_
  intro w41 h42
  have hk50 := h42.kp (Dw := False)
  have h49 : El (α := staff_ratio) A10 w41 b38 0 x30 := h42.el hA ⟨[v31], _, rfl, ⟨_, rfl, h32⟩, ⟨_, rfl, h34⟩⟩
  have ht51 := Kp.tr (Dw := False) hk50 hA hB
  replace hH := Hp.kp (Dw := False) hH hk50
  replace hK := Tr.trans (Dw := False) hK ht51
  replace hB := Nat.le_trans hB ht51.ex.size
  replace hA := ht51.new
  refine V_to (fun _ _ => rfl) ?_
  refine C_seq ?_
  refine C_region ?_
  have h52 := El_staff_ratio_0 h49
  refine V_y (Y_fieldAddr Tryd.underlying51 rfl Tryd.sizeOf49 (by decide) rfl) rfl rfl rfl ?_
  obtain ⟨v53, h54, h55⟩ := El.list h52
  refine V_y (Y_load h54 Tryd.isAgg49 rfl) rfl rfl rfl ?_
  have h56 := El_staff_ratio_1 h49
  refine V_y (Y_fieldAddr Tryd.underlying51 rfl Tryd.sizeOf49 (by decide) rfl) rfl rfl rfl ?_
  obtain ⟨v57, h58, h59⟩ := El.list h56
  refine V_y (Y_load h58 Tryd.isAgg49 rfl) rfl rfl rfl ?_
  obtain ⟨x60, hx60, hm⟩ := Option.bind_eq_some_iff.1 hm
  refine V_call Tryd.call21 rfl rfl rfl rfl (staff_lowest_c (Dw := False) w41 hA x30.num v53 h55 x30.den v57 h59 hx60) ?_
  rintro _ w65 ⟨v61, v63, rfl, h62, h64, hk66⟩
  have ht67 := Kp.tr (Dw := False) hk66 hA hB
  replace hH := Hp.kp (Dw := False) hH hk66
  replace hK := Tr.trans (Dw := False) hK ht67
  replace hB := Nat.le_trans hB ht67.ex.size
  replace hA := ht67.new
  obtain ⟨x68, hx68, hm⟩ := Option.bind_eq_some_iff.1 hm
  refine V_call Tryd.call22 rfl rfl rfl rfl (staff_ratio_written_c w65 hA (Tb.tr (Dw := False) hT hK) x60 v61 h62 v63 h64 hx68) ?_
  rintro _ w69 ⟨rfl, hk70⟩
  have ht71 := Kp.tr (Dw := False) hk70 hA hB
  replace hH := Hp.kp (Dw := False) hH hk70
  replace hK := Tr.trans (Dw := False) hK ht71
  replace hB := Nat.le_trans hB ht71.ex.size
  replace hA := ht71.new
  refine V_storeC (Dw := False) (off := 0) (ds := [.string x68.num, .string x68.den]) hH (i := 0) rfl Tryd.sizeOf25 rfl (Nat.le_of_ble_eq_true rfl) (by simp [Value.cells, Value.oneCell']) rfl hB hA rfl rfl ?_
  intro w72 hH73 ht74
  replace hK := Tr.trans (Dw := False) hK ht74
  replace hH : Hp w.heap.size A10 w72 (obC b7 [.string x68.num, .string x68.den] 25 :: []) := hH73
  refine V_as rfl rfl ?_
  refine V_to (fun _ _ => rfl) ?_
  obtain rfl := Option.some.inj hm
  refine C_ret ?_
  try simp only [↓inBlock_ret, ↓then_ret]
  exact retQ rfl (Res.l2 Tryd.results7 (RL.cell rfl (loadVar_agg (Hp.part (off := 0) (n := 2) (ds := [.string x68.num, .string x68.den]) hH (i := 0) rfl rfl) Tryd.isAgg25 Tryd.sizeOf25)) (RL.tmp rfl)) ⟨rfl, hK.kp⟩

set_option maxRecDepth 4000 in
set_option maxHeartbeats 4000000 in
theorem staff_Load_meanWait_c (w : World) {A : Nat → Prop} (hA : ∀ b, w.heap.size ≤ b → A b) (l : staff_Load) (n : Int) {r : (staff_ratio × Bool)} (hm : staff_Load_meanWait l n = some r) : Ret Tryd.prog 24 #[.agg #[.int .i64 l.calls, .int .i64 l.length, .int .i64 l.span], .int .i64 n] w fun v w' => ∃ s0 s1, v = .tuple #[.agg #[s0, s1], .bool r.2] ∧ Sl A w' s0 r.1.num ∧ Sl A w' s1 r.1.den ∧ Kp Dw w w' := by
 unfold staff_Load_meanWait at hm
 refine enter Tryd.func24 rfl Tryd.ntmps24 rfl ?_
 have hA0 := hA
 have hB := Nat.le_refl w.heap.size
 have hK : Tr Dw w.heap.size A w A w := Tr.refl (Dw := Dw) hA
 have hH : Hp w.heap.size A w [] := Hp.nil
 refine C_seq ?_
 refine C_region ?_
 refine V_box rfl rfl ?_
 intro b1 w2 h3
 have hk5 := h3.kp (Dw := Dw)
 have h4 : El (α := staff_Load) A w2 b1 0 l := h3.el hA ⟨[.int .i64 l.calls], _, rfl, rfl, ⟨[.int .i64 l.length], _, rfl, rfl, rfl⟩⟩
 have ht6 := Kp.tr hk5 hA hB
 replace hH := Hp.kp hH hk5
 replace hK := Tr.trans hK ht6
 replace hB := Nat.le_trans hB ht6.ex.size
 replace hA := ht6.new
 refine V_allocH (Dw := Dw) (B := w.heap.size) hH Tryd.zeroValue51 hB hA rfl ?_
 intro b7 w9 A10 hH11 ht12
 replace h4 := El.tr h4 ht12
 replace hK := Tr.trans hK ht12
 replace hB := Nat.le_trans hB ht12.ex.size
 replace hA := ht12.new
 replace hH : Hp w.heap.size A10 w9 (obC b7 [.slice none 0 0, .slice none 0 0] 51 :: []) := hH11
 refine V_as rfl rfl ?_
 refine V_to (fun _ _ => rfl) ?_
 refine C_seq ?_
 refine C_seq ?_
 refine C_region ?_
 have h13 := El_staff_Load_0 h4
 refine V_y (Y_fieldAddr Tryd.underlying23 rfl Tryd.sizeOf3 (by decide) rfl) rfl rfl rfl ?_
 refine V_y (Y_load (El.int h13) Tryd.isAgg3 rfl) rfl rfl rfl ?_
 refine V_y (Y_eql rfl rfl) rfl rfl rfl ?_
 refine V_to (fun _ _ => rfl) ?_
 refine C_cond rfl (fun hc14 => ?_) (fun hc14 => ?_)
 ·rw [if_pos hc14] at hm
  refine C_seq ?_
  refine C_region ?_
  refine V_buildSlice (Dw := Dw) (l := ([1] : List Int)) (len := 1) Tryd.underlying49 Tryd.sizeOf3 Tryd.zeroValue3 rfl (by with_unfolding_all rfl) (show (1 * 1 : Nat) ≠ 0 by decide) (show (1 * 1 : Nat) ≤ 2 ^ 24 by decide) hA ⟨[.int .i64 1], _, rfl, rfl, rfl⟩ rfl rfl ?_
  intro v15 w17 hk19 h18
  have ht20 := Kp.tr hk19 hA hB
  replace hH := Hp.kp hH hk19
  replace hK := Tr.trans hK ht20
  replace hB := Nat.le_trans hB ht20.ex.size
  replace hA := ht20.new
  refine V_y (Y_build (cells := #[.slice none 0 0, v15]) Tryd.underlying51 Tryd.zeroValue51 (Tryd_places51 _ Tryd.underlying51) rfl (by obtain ⟨a21, c22, e23, _⟩ := Sl.form h18; subst e23; with_unfolding_all rfl)) rfl rfl rfl ?_
  have h29 : (v15).oneCell' = true := by obtain ⟨_, _, e, _⟩ := Sl.form h18; rw [e]; rfl
  refine V_storeC (Dw := Dw) (off := 0) (ds := [.slice none 0 0, v15]) hH (i := 0) rfl Tryd.sizeOf51 rfl (Nat.le_of_ble_eq_true rfl) (by exact (List.forall_mem_cons.2 ⟨rfl, (List.forall_mem_cons.2 ⟨h29, (fun _ h => nomatch h)⟩)⟩)) rfl hB hA rfl rfl ?_
  intro w24 hH25 ht26
  replace h18 := Sl.tr h18 ht26
  replace hK := Tr.trans hK ht26
  replace hH : Hp w.heap.size A10 w24 (obC b7 [.slice none 0 0, v15] 51 :: []) := hH25
  refine V_as rfl rfl ?_
  refine V_to (fun _ _ => rfl) ?_
  obtain rfl := Option.some.inj hm
  refine C_ret ?_
  try simp only [↓inBlock_ret, ↓then_ret]
  exact retQ rfl (Res.l2 Tryd.results24 (RL.cell rfl (loadVar_agg (Hp.part (off := 0) (n := 2) (ds := [.slice none 0 0, v15]) hH (i := 0) rfl rfl) Tryd.isAgg51 Tryd.sizeOf51)) (RL.tmp rfl)) ⟨.slice none 0 0, v15, rfl, Sl.nil, (Sl.out (Dw := Dw) h18 hA0 hK), hK.kp⟩
 ·rw [if_neg (nt hc14)] at hm
  refine C_skip_to (fun _ _ => rfl) ?_
  refine C_seq ?_
  refine C_seq ?_
  refine C_region ?_
  obtain ⟨h30, _⟩ := El_staff_Load h4
  refine V_y (Y_loadA h30 Tryd.isAgg23 Tryd.sizeOf23 rfl) rfl rfl rfl ?_
  refine V_mv rfl rfl ?_
  obtain ⟨x31, hx31, hm⟩ := Option.bind_eq_some_iff.1 hm
  refine V_call Tryd.call43 rfl rfl rfl rfl (staff_Load_enough_c (Dw := Dw) w9 hA l n hx31) ?_
  rintro _ w33 ⟨rfl, hk34⟩
  have ht35 := Kp.tr hk34 hA hB
  replace hH := Hp.kp hH hk34
  replace h4 := El.tr h4 ht35
  replace hK := Tr.trans hK ht35
  replace hB := Nat.le_trans hB ht35.ex.size
  replace hA := ht35.new
  refine V_y (Y_not rfl) rfl rfl rfl ?_
  refine V_to (fun _ _ => rfl) ?_
  refine C_cond rfl (fun hc36 => ?_) (fun hc36 => ?_)
  ·rw [if_pos hc36] at hm
   refine C_seq ?_
   refine C_region ?_
   refine V_y (Y_build Tryd.underlying51 Tryd.zeroValue51 (Tryd_places51 _ Tryd.underlying51) rfl (by with_unfolding_all rfl)) rfl rfl rfl ?_
   refine V_storeC (Dw := Dw) (off := 0) (ds := [.slice none 0 0, .slice none 0 0]) hH (i := 0) rfl Tryd.sizeOf51 rfl (Nat.le_of_ble_eq_true rfl) (by exact (List.forall_mem_cons.2 ⟨rfl, (List.forall_mem_cons.2 ⟨rfl, (fun _ h => nomatch h)⟩)⟩)) rfl hB hA rfl rfl ?_
   intro w37 hH38 ht39
   replace hK := Tr.trans hK ht39
   replace hH : Hp w.heap.size A10 w37 (obC b7 [.slice none 0 0, .slice none 0 0] 51 :: []) := hH38
   refine V_as rfl rfl ?_
   refine V_to (fun _ _ => rfl) ?_
   obtain rfl := Option.some.inj hm
   refine C_ret ?_
   try simp only [↓inBlock_ret, ↓then_ret]
   exact retQ rfl (Res.l2 Tryd.results24 (RL.cell rfl (loadVar_agg (Hp.part (off := 0) (n := 2) (ds := [.slice none 0 0, .slice none 0 0]) hH (i := 0) rfl rfl) Tryd.isAgg51 Tryd.sizeOf51)) (RL.tmp rfl)) ⟨.slice none 0 0, .slice none 0 0, rfl, Sl.nil, Sl.nil, hK.kp⟩
  ·rw [if_neg (nt hc36)] at hm
   refine C_skip_to (fun _ _ => rfl) ?_
   refine C_seq ?_
   refine C_region ?_
   obtain ⟨h40, _⟩ := El_staff_Load h4
   refine V_y (Y_loadA h40 Tryd.isAgg23 Tryd.sizeOf23 rfl) rfl rfl rfl ?_
   obtain ⟨x41, hx41, hm⟩ := Option.bind_eq_some_iff.1 hm
   refine V_call Tryd.call11 rfl rfl rfl rfl (staff_Load_offered_c (Dw := Dw) w33 hA l hx41) ?_
   rintro _ w42 ⟨rfl, hk43⟩
   have ht44 := Kp.tr hk43 hA hB
   replace hH := Hp.kp hH hk43
   replace h4 := El.tr h4 ht44
   replace hK := Tr.trans hK ht44
   replace hB := Nat.le_trans hB ht44.ex.size
   replace hA := ht44.new
   refine V_mv rfl rfl ?_
   refine V_y (Y_extract rfl rfl) rfl rfl rfl ?_
   refine V_y (Y_extract rfl rfl) rfl rfl rfl ?_
   refine V_as rfl rfl ?_
   refine V_as rfl rfl ?_
   refine V_to (fun _ _ => rfl) ?_
   refine C_seq ?_
   refine C_region ?_
   obtain ⟨h45, _⟩ := El_staff_Load h4
   refine V_y (Y_loadA h45 Tryd.isAgg23 Tryd.sizeOf23 rfl) rfl rfl rfl ?_
   refine V_mv rfl rfl ?_
   obtain ⟨x46, hx46, hm⟩ := Option.bind_eq_some_iff.1 hm
   refine V_call Tryd.call23 rfl rfl rfl rfl (staff_Load_waits_c (Dw := Dw) w42 hA l n hx46) ?_
   rintro _ w51 ⟨v47, v49, rfl, h48, h50, hk52⟩
   have ht53 := Kp.tr hk52 hA hB
   replace hH := Hp.kp hH hk52
   replace h4 := El.tr h4 ht53
   replace hK := Tr.trans hK ht53
   replace hB := Nat.le_trans hB ht53.ex.size
   replace hA := ht53.new
   refine V_alloc Tryd.zeroValue51 rfl ?_
   intro b54 w55 h56
   have h61 : (v47).oneCell' = true := by obtain ⟨_, _, e, _⟩ := Sl.form h48; rw [e]; rfl
   have h64 : (v49).oneCell' = true := by obtain ⟨_, _, e, _⟩ := Sl.form h50; rw [e]; rfl
   refine V_storeNew h56 Tryd.sizeOf51 rfl rfl rfl rfl (by exact (List.forall_mem_cons.2 ⟨h61, (List.forall_mem_cons.2 ⟨h64, (fun _ h => nomatch h)⟩)⟩)) ?_
   intro w57 h58
   have hk66 := h58.kp (Dw := Dw)
   have h65 : El (α := staff_ratio) A10 w57 b54 0 x46 := h58.el hA ⟨[v47], _, rfl, ⟨_, rfl, h48⟩, ⟨_, rfl, h50⟩⟩
   have ht67 := Kp.tr hk66 hA hB
   replace hH := Hp.kp hH hk66
   replace h4 := El.tr h4 ht67
   replace hK := Tr.trans hK ht67
   replace hB := Nat.le_trans hB ht67.ex.size
   replace hA := ht67.new
   refine V_to (fun _ _ => rfl) ?_
   refine C_seq ?_
   refine C_region_ch (Dw := Dw) A10 18 [(1, 0), (1, 1), (1, 2), (1, 3), (1, 4), (1, 5), (1, 7), (1, 8), (1, 9), (1, 10), (1, 11), (1, 12), (1, 13), (2, 6), (2, 14), (1, 15), (4, 16), (1, 17)] Tryd_mixed (by kernel_rfl) (fun w68 hk69 => ?_)
   have ht70 := Kp.tr hk69 hA hB
   replace hH := Hp.kp hH hk69
   replace h4 := El.tr h4 ht70
   replace h65 := El.tr h65 ht70
   replace hK := Tr.trans hK ht70
   replace hB := Nat.le_trans hB ht70.ex.size
   replace hA := ht70.new
   refine CH_q2 (Dw := Dw) rfl ?_
   have h71 := El_staff_ratio_0 h65
   refine VQ_y (fun w' hw' => Y_fieldAddr Tryd.underlying51 rfl Tryd.sizeOf49 (by decide) rfl) rfl rfl rfl ?_
   refine VQ_CH (Dw := Dw) ?_
   refine CH_q2 (Dw := Dw) rfl ?_
   obtain ⟨v72, h73, h74⟩ := El.list h71
   refine VQ_y (fun w' hw' => Y_load ((World.cell?_of_block (hw'.2 _ h71.2.1 h71.1)).trans h73) Tryd.isAgg49 rfl) rfl rfl rfl ?_
   refine VQ_CH (Dw := Dw) ?_
   refine CH_q2 (Dw := Dw) rfl ?_
   have h75 := El_staff_Load_1 h4
   refine VQ_y (fun w' hw' => Y_fieldAddr Tryd.underlying23 rfl Tryd.sizeOf3 (by decide) rfl) rfl rfl rfl ?_
   refine VQ_CH (Dw := Dw) ?_
   refine CH_q2 (Dw := Dw) rfl ?_
   refine VQ_y (fun w' hw' => Y_load (El.int (El.keep h75 (XA.ex hw'))) Tryd.isAgg3 rfl) rfl rfl rfl ?_
   refine VQ_CH (Dw := Dw) ?_
   refine CH_q2 (Dw := Dw) rfl ?_
   refine VQ_y (fun w' hw' => Y_move rfl) rfl rfl rfl ?_
   refine VQ_CH (Dw := Dw) ?_
   refine CH_q2 (Dw := Dw) rfl ?_
   refine VQ_y (fun w' hw' => Y_mulI rfl rfl) rfl rfl rfl ?_
   refine VQ_CH (Dw := Dw) ?_
   refine CH_q2 (Dw := Dw) rfl ?_
   have h76 := El_staff_ratio_1 h65
   refine VQ_y (fun w' hw' => Y_fieldAddr Tryd.underlying51 rfl Tryd.sizeOf49 (by decide) rfl) rfl rfl rfl ?_
   refine VQ_CH (Dw := Dw) ?_
   refine CH_q2 (Dw := Dw) rfl ?_
   obtain ⟨v77, h78, h79⟩ := El.list h76
   refine VQ_y (fun w' hw' => Y_load ((World.cell?_of_block (hw'.2 _ h76.2.1 h76.1)).trans h78) Tryd.isAgg49 rfl) rfl rfl rfl ?_
   refine VQ_CH (Dw := Dw) ?_
   refine CH_q2 (Dw := Dw) rfl ?_
   refine VQ_y (fun w' hw' => Y_move rfl) rfl rfl rfl ?_
   refine VQ_CH (Dw := Dw) ?_
   refine CH_q2 (Dw := Dw) rfl ?_
   refine VQ_y (fun w' hw' => Y_move rfl) rfl rfl rfl ?_
   refine VQ_CH (Dw := Dw) ?_
   refine CH_q2 (Dw := Dw) rfl ?_
   refine VQ_y (fun w' hw' => Y_mulI rfl rfl) rfl rfl rfl ?_
   refine VQ_CH (Dw := Dw) ?_
   refine CH_q2 (Dw := Dw) rfl ?_
   refine VQ_y (fun w' hw' => Y_move rfl) rfl rfl rfl ?_
   refine VQ_CH (Dw := Dw) ?_
   refine CH_q2 (Dw := Dw) rfl ?_
   refine VQ_y (fun w' hw' => Y_subI rfl rfl) rfl rfl rfl ?_
   refine VQ_CH (Dw := Dw) ?_
   refine CH_l1 (Dw := Dw) (k := 0) rfl ?_
   obtain ⟨x80, hx80, hm⟩ := Option.bind_eq_some_iff.1 hm
   refine V_call Tryd.call38 rfl rfl rfl rfl (staff_nat_small_c (Dw := Dw) w68 hA x46.num v72 h74 (w64 (l.length * x41.2)) hx80) ?_
   rintro v81 w83 ⟨_, rfl, h82, hk84⟩
   have ht85 := Kp.tr hk84 hA hB
   replace hH := Hp.kp hH hk84
   replace h79 := Sl.tr h79 ht85
   replace hK := Tr.trans hK ht85
   replace hB := Nat.le_trans hB ht85.ex.size
   replace hA := ht85.new
   refine V_CH (Dw := Dw) (hk84) ?_
   refine CH_l1 (Dw := Dw) (k := 0) rfl ?_
   obtain ⟨x86, hx86, hm⟩ := Option.bind_eq_some_iff.1 hm
   refine V_call Tryd.call38 rfl rfl rfl rfl (staff_nat_small_c (Dw := Dw) w83 hA x46.den v77 h79 (w64 ((w64 (n * x41.2)) - x41.1)) hx86) ?_
   rintro v87 w89 ⟨_, rfl, h88, hk90⟩
   have ht91 := Kp.tr hk90 hA hB
   replace hH := Hp.kp hH hk90
   replace h82 := Sl.tr h82 ht91
   replace hK := Tr.trans hK ht91
   replace hB := Nat.le_trans hB ht91.ex.size
   replace hA := ht91.new
   refine V_CH (Dw := Dw) (hk90) ?_
   refine CH_q2 (Dw := Dw) rfl ?_
   refine VQ_y (fun w' hw' => Y_build (cells := #[v81, v87]) Tryd.underlying51 Tryd.zeroValue51 (Tryd_places51 _ Tryd.underlying51) rfl (by obtain ⟨a92, c93, e94, _⟩ := Sl.form h82; subst e94; obtain ⟨a95, c96, e97, _⟩ := Sl.form h88; subst e97; with_unfolding_all rfl)) rfl rfl rfl ?_
   refine VQ_CH (Dw := Dw) ?_
   refine CH_l1 (Dw := Dw) (k := 2) rfl ?_
   have h103 : (v81).oneCell' = true := by obtain ⟨_, _, e, _⟩ := Sl.form h82; rw [e]; rfl
   have h106 : (v87).oneCell' = true := by obtain ⟨_, _, e, _⟩ := Sl.form h88; rw [e]; rfl
   refine V_storeC (Dw := Dw) (off := 0) (ds := [v81, v87]) hH (i := 0) rfl Tryd.sizeOf51 rfl (Nat.le_of_ble_eq_true rfl) (by exact (List.forall_mem_cons.2 ⟨h103, (List.forall_mem_cons.2 ⟨h106, (fun _ h => nomatch h)⟩)⟩)) rfl hB hA rfl rfl ?_
   intro w98 hH99 ht100
   replace h82 := Sl.tr h82 ht100
   replace h88 := Sl.tr h88 ht100
   replace hK := Tr.trans hK ht100
   replace hH : Hp w.heap.size A10 w98 (obC b7 [v81, v87] 51 :: []) := hH99
   refine V_CHw (Dw := Dw) ?_
   refine CH_q2 (Dw := Dw) rfl ?_
   refine VQ_y (fun w' hw' => Y_assign rfl) rfl rfl rfl ?_
   refine VQ_CH (Dw := Dw) ?_
   refine CH_tail (Dw := Dw) ?_
   show V _ _ _ _ [] _ _
   refine V_to (fun _ _ => rfl) ?_
   obtain rfl := Option.some.inj hm
   refine C_ret ?_
   try simp only [↓inBlock_ret, ↓then_ret]
   exact retQ rfl (Res.l2 Tryd.results24 (RL.cell rfl (loadVar_agg (Hp.part (off := 0) (n := 2) (ds := [v81, v87]) hH (i := 0) rfl rfl) Tryd.isAgg51 Tryd.sizeOf51)) (RL.tmp rfl)) ⟨v81, v87, rfl, (Sl.out (Dw := Dw) h82 hA0 hK), (Sl.out (Dw := Dw) h88 hA0 hK), hK.kp⟩

set_option maxRecDepth 4000 in
set_option maxHeartbeats 4000000 in
theorem staff_MeanWait_c (w : World) {A : Nat → Prop} (hA : ∀ b, w.heap.size ≤ b → A b) (hT : Tb Tryd.prog A w) (l : staff_Load) (n : Int) {r : (staff_Ratio × Int)} (hm : staff_MeanWait l n = some r) : Ret Tryd.prog 8 #[.agg #[.int .i64 l.calls, .int .i64 l.length, .int .i64 l.span], .int .i64 n] w fun v w' => v = .tuple #[.agg #[.string r.1.num, .string r.1.den], .int .i64 r.2] ∧ Kp False w w' := by
 unfold staff_MeanWait at hm
 refine enter Tryd.func8 rfl Tryd.ntmps8 rfl ?_
 have hA0 := hA
 have hB := Nat.le_refl w.heap.size
 have hK : Tr False w.heap.size A w A w := Tr.refl (Dw := False) hA
 have hH : Hp w.heap.size A w [] := Hp.nil
 refine C_seq ?_
 refine C_region ?_
 refine V_box rfl rfl ?_
 intro b1 w2 h3
 have hk5 := h3.kp (Dw := False)
 have h4 : El (α := staff_Load) A w2 b1 0 l := h3.el hA ⟨[.int .i64 l.calls], _, rfl, rfl, ⟨[.int .i64 l.length], _, rfl, rfl, rfl⟩⟩
 have ht6 := Kp.tr (Dw := False) hk5 hA hB
 replace hH := Hp.kp (Dw := False) hH hk5
 replace hK := Tr.trans (Dw := False) hK ht6
 replace hB := Nat.le_trans hB ht6.ex.size
 replace hA := ht6.new
 refine V_allocH (Dw := False) (B := w.heap.size) hH Tryd.zeroValue25 hB hA rfl ?_
 intro b7 w9 A10 hH11 ht12
 replace h4 := El.tr (Dw := False) h4 ht12
 replace hK := Tr.trans (Dw := False) hK ht12
 replace hB := Nat.le_trans hB ht12.ex.size
 replace hA := ht12.new
 replace hH : Hp w.heap.size A10 w9 (obC b7 [.string ByteArray.empty, .string ByteArray.empty] 25 :: []) := hH11
 refine V_as rfl rfl ?_
 refine V_to (fun _ _ => rfl) ?_
 refine C_seq ?_
 refine C_seq ?_
 refine C_region ?_
 obtain ⟨h13, _⟩ := El_staff_Load h4
 refine V_y (Y_loadA h13 Tryd.isAgg23 Tryd.sizeOf23 rfl) rfl rfl rfl ?_
 obtain ⟨x14, hx14, hm⟩ := Option.bind_eq_some_iff.1 hm
 refine V_call Tryd.call9 rfl rfl rfl rfl (staff_checkLoad_c (Dw := False) w9 hA l hx14) ?_
 rintro _ w15 ⟨rfl, hk16⟩
 have ht17 := Kp.tr (Dw := False) hk16 hA hB
 replace hH := Hp.kp (Dw := False) hH hk16
 replace h4 := El.tr (Dw := False) h4 ht17
 replace hK := Tr.trans (Dw := False) hK ht17
 replace hB := Nat.le_trans hB ht17.ex.size
 replace hA := ht17.new
 refine V_mv rfl rfl ?_
 refine V_call Tryd.call19 rfl rfl rfl rfl (staff_checkPeople_c w15 n) ?_
 rintro _ _ ⟨rfl, rfl⟩
 refine V_buildSlice (Dw := False) (cells := #[.int .i64 x14, .int .i64 (staff_checkPeople n)]) (l := ([x14, (staff_checkPeople n)] : List Int)) (len := 2) Tryd.underlying66 Tryd.sizeOf26 Tryd.zeroValue26 rfl (by generalize ((staff_checkPeople n) : Int) = z22; kernel_rfl) (show (2 * 1 : Nat) ≠ 0 by decide) (show (2 * 1 : Nat) ≤ 2 ^ 24 by decide) hA ⟨[.int .i64 x14], _, rfl, rfl, ⟨[.int .i64 (staff_checkPeople n)], _, rfl, rfl, rfl⟩⟩ rfl rfl ?_
 intro v18 w19 hk21 h20
 have ht23 := Kp.tr (Dw := False) hk21 hA hB
 replace hH := Hp.kp (Dw := False) hH hk21
 replace h4 := El.tr (Dw := False) h4 ht23
 replace hK := Tr.trans (Dw := False) hK ht23
 replace hB := Nat.le_trans hB ht23.ex.size
 replace hA := ht23.new
 obtain ⟨x24, hx24, hm⟩ := Option.bind_eq_some_iff.1 hm
 refine V_call Tryd.call18 rfl rfl rfl rfl (cmp_Or_api_Errno_c w19 ([x14, (staff_checkPeople n)] : List Int) v18 h20 hx24) ?_
 rintro _ _ ⟨rfl, rfl⟩
 refine V_as rfl rfl ?_
 refine V_to (fun _ _ => rfl) ?_
 refine C_seq ?_
 refine C_region ?_
 refine V_mv rfl rfl ?_
 refine V_y (Y_neq rfl rfl) rfl rfl rfl ?_
 refine V_to (fun _ _ => rfl) ?_
 refine C_cond rfl (fun hc25 => ?_) (fun hc25 => ?_)
 ·rw [if_pos hc25] at hm
  refine C_seq ?_
  refine C_region ?_
  refine V_y (Y_build Tryd.underlying25 Tryd.zeroValue25 (Tryd_places25 _ Tryd.underlying25) rfl (by with_unfolding_all rfl)) rfl rfl rfl ?_
  refine V_mv rfl rfl ?_
  refine V_storeC (Dw := False) (off := 0) (ds := [.string ByteArray.empty, .string ByteArray.empty]) hH (i := 0) rfl Tryd.sizeOf25 rfl (Nat.le_of_ble_eq_true rfl) (by simp [Value.cells, Value.oneCell']) rfl hB hA rfl rfl ?_
  intro w26 hH27 ht28
  replace hK := Tr.trans (Dw := False) hK ht28
  replace hH : Hp w.heap.size A10 w26 (obC b7 [.string ByteArray.empty, .string ByteArray.empty] 25 :: []) := hH27
  refine V_as rfl rfl ?_
  refine V_to (fun _ _ => rfl) ?_
  obtain rfl := Option.some.inj hm
  refine C_ret ?_
  try simp only [↓inBlock_ret, ↓then_ret]
  exact retQ rfl (Res.l2 Tryd.results8 (RL.cell rfl (loadVar_agg (Hp.part (off := 0) (n := 2) (ds := [.string ByteArray.empty, .string ByteArray.empty]) hH (i := 0) rfl rfl) Tryd.isAgg25 Tryd.sizeOf25)) (RL.tmp rfl)) ⟨rfl, hK.kp⟩
 ·rw [if_neg (nt hc25)] at hm
  refine C_skip_to (fun _ _ => rfl) ?_
  refine C_seq ?_
  refine C_region ?_
  obtain ⟨h29, _⟩ := El_staff_Load h4
  refine V_y (Y_loadA h29 Tryd.isAgg23 Tryd.sizeOf23 rfl) rfl rfl rfl ?_
  refine V_mv rfl rfl ?_
  obtain ⟨x30, hx30, hm⟩ := Option.bind_eq_some_iff.1 hm
  refine V_call Tryd.call24 rfl rfl rfl rfl (staff_Load_meanWait_c (Dw := False) w19 hA l n hx30) ?_
  rintro _ w35 ⟨v31, v33, rfl, h32, h34, hk36⟩
  have ht37 := Kp.tr (Dw := False) hk36 hA hB
  replace hH := Hp.kp (Dw := False) hH hk36
  replace hK := Tr.trans (Dw := False) hK ht37
  replace hB := Nat.le_trans hB ht37.ex.size
  replace hA := ht37.new
  refine V_mv rfl rfl ?_
  refine V_y (Y_extract rfl rfl) rfl rfl rfl ?_
  refine V_y (Y_extract rfl rfl) rfl rfl rfl ?_
  refine V_alloc Tryd.zeroValue51 rfl ?_
  intro b38 w39 h40
  have h45 : (v31).oneCell' = true := by obtain ⟨_, _, e, _⟩ := Sl.form h32; rw [e]; rfl
  have h48 : (v33).oneCell' = true := by obtain ⟨_, _, e, _⟩ := Sl.form h34; rw [e]; rfl
  refine V_storeNew h40 Tryd.sizeOf51 rfl rfl rfl rfl (by exact (List.forall_mem_cons.2 ⟨h45, (List.forall_mem_cons.2 ⟨h48, (fun _ h => nomatch h)⟩)⟩)) ?_
  intro w41 h42
  have hk50 := h42.kp (Dw := False)
  have h49 : El (α := staff_ratio) A10 w41 b38 0 x30.1 := h42.el hA ⟨[v31], _, rfl, ⟨_, rfl, h32⟩, ⟨_, rfl, h34⟩⟩
  have ht51 := Kp.tr (Dw := False) hk50 hA hB
  replace hH := Hp.kp (Dw := False) hH hk50
  replace hK := Tr.trans (Dw := False) hK ht51
  replace hB := Nat.le_trans hB ht51.ex.size
  replace hA := ht51.new
  refine V_as rfl rfl ?_
  refine V_to (fun _ _ => rfl) ?_
  refine C_seq ?_
  refine C_seq ?_
  refine C_region ?_
  refine V_mv rfl rfl ?_
  refine V_y (Y_not rfl) rfl rfl rfl ?_
  refine V_to (fun _ _ => rfl) ?_
  refine C_cond rfl (fun hc52 => ?_) (fun hc52 => ?_)
  ·rw [if_pos hc52] at hm
   refine C_seq ?_
   refine C_region ?_
   refine V_y (Y_build Tryd.underlying25 Tryd.zeroValue25 (Tryd_places25 _ Tryd.underlying25) rfl (by with_unfolding_all rfl)) rfl rfl rfl ?_
   refine V_storeC (Dw := False) (off := 0) (ds := [.string ByteArray.empty, .string ByteArray.empty]) hH (i := 0) rfl Tryd.sizeOf25 rfl (Nat.le_of_ble_eq_true rfl) (by simp [Value.cells, Value.oneCell']) rfl hB hA rfl rfl ?_
   intro w53 hH54 ht55
   replace hK := Tr.trans (Dw := False) hK ht55
   replace hH : Hp w.heap.size A10 w53 (obC b7 [.string ByteArray.empty, .string ByteArray.empty] 25 :: []) := hH54
   refine V_as rfl rfl ?_
   refine V_to (fun _ _ => rfl) ?_
   obtain rfl := Option.some.inj hm
   refine C_ret ?_
   try simp only [↓inBlock_ret, ↓then_ret]
   exact retQ rfl (Res.l2 Tryd.results8 (RL.cell rfl (loadVar_agg (Hp.part (off := 0) (n := 2) (ds := [.string ByteArray.empty, .string ByteArray.empty]) hH (i := 0) rfl rfl) Tryd.isAgg25 Tryd.sizeOf25)) (RL.tmp rfl)) ⟨rfl, hK.kp⟩
  ·rw [if_neg (nt hc52)] at hm
   refine C_skip_to (fun _ _ => rfl) ?_
   refine C_seq ?_
   refine C_region ?_
   have h56 := El_staff_ratio_0 h49
   refine V_y (Y_fieldAddr Tryd.underlying51 rfl Tryd.sizeOf49 (by decide) rfl) rfl rfl rfl ?_
   obtain ⟨v57, h58, h59⟩ := El.list h56
   refine V_y (Y_load h58 Tryd.isAgg49 rfl) rfl rfl rfl ?_
   have h60 := El_staff_ratio_1 h49
   refine V_y (Y_fieldAddr Tryd.underlying51 rfl Tryd.sizeOf49 (by decide) rfl) rfl rfl rfl ?_
   obtain ⟨v61, h62, h63⟩ := El.list h60
   refine V_y (Y_load h62 Tryd.isAgg49 rfl) rfl rfl rfl ?_
   obtain ⟨x64, hx64, hm⟩ := Option.bind_eq_some_iff.1 hm
   refine V_call Tryd.call21 rfl rfl rfl rfl (staff_lowest_c (Dw := False) w41 hA x30.1.num v57 h59 x30.1.den v61 h63 hx64) ?_
   rintro _ w69 ⟨v65, v67, rfl, h66, h68, hk70⟩
   have ht71 := Kp.tr (Dw := False) hk70 hA hB
   replace hH := Hp.kp (Dw := False) hH hk70
   replace hK := Tr.trans (Dw := False) hK ht71
   replace hB := Nat.le_trans hB ht71.ex.size
   replace hA := ht71.new
   obtain ⟨x72, hx72, hm⟩ := Option.bind_eq_some_iff.1 hm
   refine V_call Tryd.call22 rfl rfl rfl rfl (staff_ratio_written_c w69 hA (Tb.tr (Dw := False) hT hK) x64 v65 h66 v67 h68 hx72) ?_
   rintro _ w73 ⟨rfl, hk74⟩
   have ht75 := Kp.tr (Dw := False) hk74 hA hB
   replace hH := Hp.kp (Dw := False) hH hk74
   replace hK := Tr.trans (Dw := False) hK ht75
   replace hB := Nat.le_trans hB ht75.ex.size
   replace hA := ht75.new
   refine V_storeC (Dw := False) (off := 0) (ds := [.string x72.num, .string x72.den]) hH (i := 0) rfl Tryd.sizeOf25 rfl (Nat.le_of_ble_eq_true rfl) (by simp [Value.cells, Value.oneCell']) rfl hB hA rfl rfl ?_
   intro w76 hH77 ht78
   replace hK := Tr.trans (Dw := False) hK ht78
   replace hH : Hp w.heap.size A10 w76 (obC b7 [.string x72.num, .string x72.den] 25 :: []) := hH77
   refine V_as rfl rfl ?_
   refine V_to (fun _ _ => rfl) ?_
   obtain rfl := Option.some.inj hm
   refine C_ret ?_
   try simp only [↓inBlock_ret, ↓then_ret]
   exact retQ rfl (Res.l2 Tryd.results8 (RL.cell rfl (loadVar_agg (Hp.part (off := 0) (n := 2) (ds := [.string x72.num, .string x72.den]) hH (i := 0) rfl rfl) Tryd.isAgg25 Tryd.sizeOf25)) (RL.tmp rfl)) ⟨rfl, hK.kp⟩

set_option maxRecDepth 4000 in
set_option maxHeartbeats 4000000 in
theorem portlaw2_StaffFormulas_c (w : World) {A : Nat → Prop} (hA : ∀ b, w.heap.size ≤ b → A b) (hT : Tb Tryd.prog A w) (l : staff_Load) (n : Int) {r : Bool} (hm : portlaw2_StaffFormulas l n = some r) : Ret Tryd.prog 3 #[.agg #[.int .i64 l.calls, .int .i64 l.length, .int .i64 l.span], .int .i64 n] w fun v w' => v = .bool r ∧ Kp False w w' := by
 unfold portlaw2_StaffFormulas at hm
 refine enter Tryd.func3 rfl Tryd.ntmps3 rfl ?_
 have hA0 := hA
 have hB := Nat.le_refl w.heap.size
 have hK : Tr False w.heap.size A w A w := Tr.refl (Dw := False) hA
 have hH : Hp w.heap.size A w [] := Hp.nil
 refine C_seq ?_
 refine C_region ?_
 refine V_box rfl rfl ?_
 intro b1 w2 h3
 have hk5 := h3.kp (Dw := False)
 have h4 : El (α := staff_Load) A w2 b1 0 l := h3.el hA ⟨[.int .i64 l.calls], _, rfl, rfl, ⟨[.int .i64 l.length], _, rfl, rfl, rfl⟩⟩
 have ht6 := Kp.tr (Dw := False) hk5 hA hB
 replace hH := Hp.kp (Dw := False) hH hk5
 replace hK := Tr.trans (Dw := False) hK ht6
 replace hB := Nat.le_trans hB ht6.ex.size
 replace hA := ht6.new
 refine V_as rfl rfl ?_
 refine V_to (fun _ _ => rfl) ?_
 refine C_seq ?_
 refine C_region ?_
 obtain ⟨h7, _⟩ := El_staff_Load h4
 refine V_y (Y_loadA h7 Tryd.isAgg23 Tryd.sizeOf23 rfl) rfl rfl rfl ?_
 obtain ⟨x8, hx8, hm⟩ := Option.bind_eq_some_iff.1 hm
 refine V_call Tryd.call4 rfl rfl rfl rfl (staff_Offered_c w2 hA (Tb.tr (Dw := False) hT hK) l hx8) ?_
 rintro _ w9 ⟨rfl, hk10⟩
 have ht11 := Kp.tr (Dw := False) hk10 hA hB
 replace hH := Hp.kp (Dw := False) hH hk10
 replace h4 := El.tr (Dw := False) h4 ht11
 replace hK := Tr.trans (Dw := False) hK ht11
 replace hB := Nat.le_trans hB ht11.ex.size
 replace hA := ht11.new
 refine V_mv rfl rfl ?_
 refine V_y (Y_extract rfl rfl) rfl rfl rfl ?_
 refine V_y (Y_extract rfl rfl) rfl rfl rfl ?_
 refine V_allocH (Dw := False) (B := w.heap.size) hH Tryd.zeroValue25 hB hA rfl ?_
 intro b12 w13 A14 hH15 ht16
 replace h4 := El.tr (Dw := False) h4 ht16
 replace hK := Tr.trans (Dw := False) hK ht16
 replace hB := Nat.le_trans hB ht16.ex.size
 replace hA := ht16.new
 replace hH : Hp w.heap.size A14 w13 (obC b12 [.string ByteArray.empty, .string ByteArray.empty] 25 :: []) := hH15
 refine V_storeC (Dw := False) (off := 0) (ds := [.string x8.1.num, .string x8.1.den]) hH (i := 0) rfl Tryd.sizeOf25 rfl (Nat.le_of_ble_eq_true rfl) (by simp [Value.cells, Value.oneCell']) rfl hB hA rfl rfl ?_
 intro w17 hH18 ht19
 replace h4 := El.tr (Dw := False) h4 ht19
 replace hK := Tr.trans (Dw := False) hK ht19
 replace hB := Nat.le_trans hB ht19.ex.size
 replace hA := ht19.new
 replace hH : Hp w.heap.size A14 w17 (obC b12 [.string x8.1.num, .string x8.1.den] 25 :: []) := hH18
 refine V_as rfl rfl ?_
 refine V_to (fun _ _ => rfl) ?_
 refine C_seq ?_
 refine C_region ?_
 obtain ⟨h20, _⟩ := El_staff_Load h4
 refine V_y (Y_loadA h20 Tryd.isAgg23 Tryd.sizeOf23 rfl) rfl rfl rfl ?_
 refine V_mv rfl rfl ?_
 obtain ⟨x21, hx21, hm⟩ := Option.bind_eq_some_iff.1 hm
 refine V_call Tryd.call5 rfl rfl rfl rfl (portref2_FormulaOf_c (Dw := False) w17 hA (⟨#[111, 102, 102, 101, 114, 101, 100]⟩ : ByteArray) l n hx21) ?_
 rintro _ w22 ⟨rfl, hk23⟩
 have ht24 := Kp.tr (Dw := False) hk23 hA hB
 replace hH := Hp.kp (Dw := False) hH hk23
 replace h4 := El.tr (Dw := False) h4 ht24
 replace hK := Tr.trans (Dw := False) hK ht24
 replace hB := Nat.le_trans hB ht24.ex.size
 replace hA := ht24.new
 refine V_mv rfl rfl ?_
 refine V_y (Y_extract rfl rfl) rfl rfl rfl ?_
 refine V_y (Y_extract rfl rfl) rfl rfl rfl ?_
 refine V_allocH (Dw := False) (B := w.heap.size) hH Tryd.zeroValue25 hB hA rfl ?_
 intro b25 w26 A27 hH28 ht29
 replace h4 := El.tr (Dw := False) h4 ht29
 replace hK := Tr.trans (Dw := False) hK ht29
 replace hB := Nat.le_trans hB ht29.ex.size
 replace hA := ht29.new
 replace hH : Hp w.heap.size A27 w26 (obC b25 [.string ByteArray.empty, .string ByteArray.empty] 25 :: obC b12 [.string x8.1.num, .string x8.1.den] 25 :: []) := hH28
 refine V_storeC (Dw := False) (off := 0) (ds := [.string x21.1.num, .string x21.1.den]) hH (i := 0) rfl Tryd.sizeOf25 rfl (Nat.le_of_ble_eq_true rfl) (by simp [Value.cells, Value.oneCell']) rfl hB hA rfl rfl ?_
 intro w30 hH31 ht32
 replace h4 := El.tr (Dw := False) h4 ht32
 replace hK := Tr.trans (Dw := False) hK ht32
 replace hB := Nat.le_trans hB ht32.ex.size
 replace hA := ht32.new
 replace hH : Hp w.heap.size A27 w30 (obC b25 [.string x21.1.num, .string x21.1.den] 25 :: obC b12 [.string x8.1.num, .string x8.1.den] 25 :: []) := hH31
 refine V_as rfl rfl ?_
 refine V_to (fun _ _ => rfl) ?_
 refine C_seq ?_
 refine C_seq ?_
 refine C_region ?_
 refine V_y (Y_loadA (Hp.part (off := 0) (n := 2) (ds := [.string x8.1.num, .string x8.1.den]) hH (i := 1) rfl rfl) Tryd.isAgg25 Tryd.sizeOf25 rfl) rfl rfl rfl ?_
 refine V_y (Y_loadA (Hp.part (off := 0) (n := 2) (ds := [.string x21.1.num, .string x21.1.den]) hH (i := 0) rfl rfl) Tryd.isAgg25 Tryd.sizeOf25 rfl) rfl rfl rfl ?_
 refine V_y (Y_neqA (fun w => Tryd_eqt25_10000 x8.1.num x8.1.den x21.1.num x21.1.den w) Tryd_eqg25 rfl rfl) rfl rfl rfl ?_
 refine V_mv rfl rfl ?_
 refine V_cut 4 (fun _ : Unit => [(1, .int .i64 n), (2, .pointer (some ⟨b1, 0, none⟩)), (5, .pointer (some ⟨b12, 0, none⟩)), (7, .pointer (some ⟨b25, 0, none⟩)), (27, .bool ((!(strEq x8.1.num x21.1.num && (strEq x8.1.den x21.1.den))) || (x8.2 != x21.2)))]) (fun _ w' => w30 = w') ?_ ?_
 ·simp only [List.take, List.drop]
  rcases Bool.eq_false_or_eq_true (!(strEq x8.1.num x21.1.num && (strEq x8.1.den x21.1.den))) with hc33 | hc33
  ·refine V_gn rfl rfl rfl hc33 rfl rfl rfl ?_
   refine V_gn rfl rfl rfl hc33 rfl rfl rfl ?_
   refine V_gn rfl rfl rfl hc33 rfl rfl rfl ?_
   refine V_y (Y_pick_te rfl hc33 rfl) rfl rfl rfl ?_
   exact V_end fun a ha => ⟨(), ha.sub ⟨rfl, rfl, rfl, rfl, (by rw [hc33]; rfl), trivial⟩, rfl⟩
  ·refine V_ge rfl rfl rfl hc33 ?_
   refine V_mv rfl rfl ?_
   refine V_ge rfl rfl rfl hc33 ?_
   refine V_mv rfl rfl ?_
   refine V_ge rfl rfl rfl hc33 ?_
   refine V_y (Y_neq rfl rfl) rfl rfl rfl ?_
   refine V_y (Y_pick_fe rfl hc33 rfl) rfl rfl rfl ?_
   exact V_end fun a ha => ⟨(), ha.sub ⟨rfl, rfl, rfl, rfl, (by rw [hc33]; rfl), trivial⟩, rfl⟩
 simp only [List.take, List.drop]
 rintro _ _ rfl
 refine V_to (fun _ _ => rfl) ?_
 refine C_cond rfl (fun hc35 => ?_) (fun hc35 => ?_)
 ·rw [if_pos hc35] at hm
  refine C_seq ?_
  refine C_region ?_
  refine V_as rfl rfl ?_
  refine V_to (fun _ _ => rfl) ?_
  obtain rfl := Option.some.inj hm
  refine C_ret ?_
  try simp only [↓inBlock_ret, ↓then_ret]
  exact retQ rfl (Res.one Tryd.results3 rfl) ⟨rfl, hK.kp⟩
 ·rw [if_neg (nt hc35)] at hm
  refine C_skip_to (fun _ _ => rfl) ?_
  refine C_seq ?_
  refine C_region ?_
  obtain ⟨h36, _⟩ := El_staff_Load h4
  refine V_y (Y_loadA h36 Tryd.isAgg23 Tryd.sizeOf23 rfl) rfl rfl rfl ?_
  refine V_mv rfl rfl ?_
  obtain ⟨x37, hx37, hm⟩ := Option.bind_eq_some_iff.1 hm
  refine V_call Tryd.call6 rfl rfl rfl rfl (staff_Blocked_c w30 hA (Tb.tr (Dw := False) hT hK) l n hx37) ?_
  rintro _ w38 ⟨rfl, hk39⟩
  have ht40 := Kp.tr (Dw := False) hk39 hA hB
  replace hH := Hp.kp (Dw := False) hH hk39
  replace h4 := El.tr (Dw := False) h4 ht40
  replace hK := Tr.trans (Dw := False) hK ht40
  replace hB := Nat.le_trans hB ht40.ex.size
  replace hA := ht40.new
  refine V_mv rfl rfl ?_
  refine V_y (Y_extract rfl rfl) rfl rfl rfl ?_
  refine V_y (Y_extract rfl rfl) rfl rfl rfl ?_
  refine V_storeC (Dw := False) (off := 0) (ds := [.string x37.1.num, .string x37.1.den]) hH (i := 1) rfl Tryd.sizeOf25 rfl (Nat.le_of_ble_eq_true rfl) (by simp [Value.cells, Value.oneCell']) rfl hB hA rfl rfl ?_
  intro w41 hH42 ht43
  replace h4 := El.tr (Dw := False) h4 ht43
  replace hK := Tr.trans (Dw := False) hK ht43
  replace hB := Nat.le_trans hB ht43.ex.size
  replace hA := ht43.new
  replace hH : Hp w.heap.size A27 w41 (obC b25 [.string x21.1.num, .string x21.1.den] 25 :: obC b12 [.string x37.1.num, .string x37.1.den] 25 :: []) := hH42
  refine V_as rfl rfl ?_
  refine V_to (fun _ _ => rfl) ?_
  refine C_seq ?_
  refine C_region ?_
  obtain ⟨h44, _⟩ := El_staff_Load h4
  refine V_y (Y_loadA h44 Tryd.isAgg23 Tryd.sizeOf23 rfl) rfl rfl rfl ?_
  refine V_mv rfl rfl ?_
  obtain ⟨x45, hx45, hm⟩ := Option.bind_eq_some_iff.1 hm
  refine V_call Tryd.call5 rfl rfl rfl rfl (portref2_FormulaOf_c (Dw := False) w41 hA (⟨#[98, 108, 111, 99, 107, 101, 100]⟩ : ByteArray) l n hx45) ?_
  rintro _ w46 ⟨rfl, hk47⟩
  have ht48 := Kp.tr (Dw := False) hk47 hA hB
  replace hH := Hp.kp (Dw := False) hH hk47
  replace h4 := El.tr (Dw := False) h4 ht48
  replace hK := Tr.trans (Dw := False) hK ht48
  replace hB := Nat.le_trans hB ht48.ex.size
  replace hA := ht48.new
  refine V_mv rfl rfl ?_
  refine V_y (Y_extract rfl rfl) rfl rfl rfl ?_
  refine V_y (Y_extract rfl rfl) rfl rfl rfl ?_
  refine V_storeC (Dw := False) (off := 0) (ds := [.string x45.1.num, .string x45.1.den]) hH (i := 0) rfl Tryd.sizeOf25 rfl (Nat.le_of_ble_eq_true rfl) (by simp [Value.cells, Value.oneCell']) rfl hB hA rfl rfl ?_
  intro w49 hH50 ht51
  replace h4 := El.tr (Dw := False) h4 ht51
  replace hK := Tr.trans (Dw := False) hK ht51
  replace hB := Nat.le_trans hB ht51.ex.size
  replace hA := ht51.new
  replace hH : Hp w.heap.size A27 w49 (obC b25 [.string x45.1.num, .string x45.1.den] 25 :: obC b12 [.string x37.1.num, .string x37.1.den] 25 :: []) := hH50
  refine V_as rfl rfl ?_
  refine V_to (fun _ _ => rfl) ?_
  refine C_seq ?_
  refine C_seq ?_
  refine C_region ?_
  refine V_y (Y_loadA (Hp.part (off := 0) (n := 2) (ds := [.string x37.1.num, .string x37.1.den]) hH (i := 1) rfl rfl) Tryd.isAgg25 Tryd.sizeOf25 rfl) rfl rfl rfl ?_
  refine V_y (Y_loadA (Hp.part (off := 0) (n := 2) (ds := [.string x45.1.num, .string x45.1.den]) hH (i := 0) rfl rfl) Tryd.isAgg25 Tryd.sizeOf25 rfl) rfl rfl rfl ?_
  refine V_y (Y_neqA (fun w => Tryd_eqt25_10000 x37.1.num x37.1.den x45.1.num x45.1.den w) Tryd_eqg25 rfl rfl) rfl rfl rfl ?_
  refine V_mv rfl rfl ?_
  refine V_cut 4 (fun _ : Unit => [(1, .int .i64 n), (2, .pointer (some ⟨b1, 0, none⟩)), (5, .pointer (some ⟨b12, 0, none⟩)), (7, .pointer (some ⟨b25, 0, none⟩)), (47, .bool ((!(strEq x37.1.num x45.1.num && (strEq x37.1.den x45.1.den))) || (x37.2 != x45.2)))]) (fun _ w' => w49 = w') ?_ ?_
  ·simp only [List.take, List.drop]
   rcases Bool.eq_false_or_eq_true (!(strEq x37.1.num x45.1.num && (strEq x37.1.den x45.1.den))) with hc52 | hc52
   ·refine V_gn rfl rfl rfl hc52 rfl rfl rfl ?_
    refine V_gn rfl rfl rfl hc52 rfl rfl rfl ?_
    refine V_gn rfl rfl rfl hc52 rfl rfl rfl ?_
    refine V_y (Y_pick_te rfl hc52 rfl) rfl rfl rfl ?_
    exact V_end fun a ha => ⟨(), ha.sub ⟨rfl, rfl, rfl, rfl, (by rw [hc52]; rfl), trivial⟩, rfl⟩
   ·refine V_ge rfl rfl rfl hc52 ?_
    refine V_mv rfl rfl ?_
    refine V_ge rfl rfl rfl hc52 ?_
    refine V_mv rfl rfl ?_
    refine V_ge rfl rfl rfl hc52 ?_
    refine V_y (Y_neq rfl rfl) rfl rfl rfl ?_
    refine V_y (Y_pick_fe rfl hc52 rfl) rfl rfl rfl ?_
    exact V_end fun a ha => ⟨(), ha.sub ⟨rfl, rfl, rfl, rfl, (by rw [hc52]; rfl), trivial⟩, rfl⟩
  simp only [List.take, List.drop]
  rintro _ _ rfl
  refine V_to (fun _ _ => rfl) ?_
  refine C_cond rfl (fun hc54 => ?_) (fun hc54 => ?_)
  ·rw [if_pos hc54] at hm
   refine C_seq ?_
   refine C_region ?_
   refine V_as rfl rfl ?_
   refine V_to (fun _ _ => rfl) ?_
   obtain rfl := Option.some.inj hm
   refine C_ret ?_
   try simp only [↓inBlock_ret, ↓then_ret]
   exact retQ rfl (Res.one Tryd.results3 rfl) ⟨rfl, hK.kp⟩
  ·rw [if_neg (nt hc54)] at hm
   refine C_skip_to (fun _ _ => rfl) ?_
   refine C_seq ?_
   refine C_region ?_
   obtain ⟨h55, _⟩ := El_staff_Load h4
   refine V_y (Y_loadA h55 Tryd.isAgg23 Tryd.sizeOf23 rfl) rfl rfl rfl ?_
   refine V_mv rfl rfl ?_
   obtain ⟨x56, hx56, hm⟩ := Option.bind_eq_some_iff.1 hm
   refine V_call Tryd.call7 rfl rfl rfl rfl (staff_Waits_c w49 hA (Tb.tr (Dw := False) hT hK) l n hx56) ?_
   rintro _ w57 ⟨rfl, hk58⟩
   have ht59 := Kp.tr (Dw := False) hk58 hA hB
   replace hH := Hp.kp (Dw := False) hH hk58
   replace h4 := El.tr (Dw := False) h4 ht59
   replace hK := Tr.trans (Dw := False) hK ht59
   replace hB := Nat.le_trans hB ht59.ex.size
   replace hA := ht59.new
   refine V_mv rfl rfl ?_
   refine V_y (Y_extract rfl rfl) rfl rfl rfl ?_
   refine V_y (Y_extract rfl rfl) rfl rfl rfl ?_
   refine V_storeC (Dw := False) (off := 0) (ds := [.string x56.1.num, .string x56.1.den]) hH (i := 1) rfl Tryd.sizeOf25 rfl (Nat.le_of_ble_eq_true rfl) (by simp [Value.cells, Value.oneCell']) rfl hB hA rfl rfl ?_
   intro w60 hH61 ht62
   replace h4 := El.tr (Dw := False) h4 ht62
   replace hK := Tr.trans (Dw := False) hK ht62
   replace hB := Nat.le_trans hB ht62.ex.size
   replace hA := ht62.new
   replace hH : Hp w.heap.size A27 w60 (obC b25 [.string x45.1.num, .string x45.1.den] 25 :: obC b12 [.string x56.1.num, .string x56.1.den] 25 :: []) := hH61
   refine V_as rfl rfl ?_
   refine V_to (fun _ _ => rfl) ?_
   refine C_seq ?_
   refine C_region ?_
   obtain ⟨h63, _⟩ := El_staff_Load h4
   refine V_y (Y_loadA h63 Tryd.isAgg23 Tryd.sizeOf23 rfl) rfl rfl rfl ?_
   refine V_mv rfl rfl ?_
   obtain ⟨x64, hx64, hm⟩ := Option.bind_eq_some_iff.1 hm
   refine V_call Tryd.call5 rfl rfl rfl rfl (portref2_FormulaOf_c (Dw := False) w60 hA (⟨#[119, 97, 105, 116, 115]⟩ : ByteArray) l n hx64) ?_
   rintro _ w65 ⟨rfl, hk66⟩
   have ht67 := Kp.tr (Dw := False) hk66 hA hB
   replace hH := Hp.kp (Dw := False) hH hk66
   replace h4 := El.tr (Dw := False) h4 ht67
   replace hK := Tr.trans (Dw := False) hK ht67
   replace hB := Nat.le_trans hB ht67.ex.size
   replace hA := ht67.new
   refine V_mv rfl rfl ?_
   refine V_y (Y_extract rfl rfl) rfl rfl rfl ?_
   refine V_y (Y_extract rfl rfl) rfl rfl rfl ?_
   refine V_storeC (Dw := False) (off := 0) (ds := [.string x64.1.num, .string x64.1.den]) hH (i := 0) rfl Tryd.sizeOf25 rfl (Nat.le_of_ble_eq_true rfl) (by simp [Value.cells, Value.oneCell']) rfl hB hA rfl rfl ?_
   intro w68 hH69 ht70
   replace h4 := El.tr (Dw := False) h4 ht70
   replace hK := Tr.trans (Dw := False) hK ht70
   replace hB := Nat.le_trans hB ht70.ex.size
   replace hA := ht70.new
   replace hH : Hp w.heap.size A27 w68 (obC b25 [.string x64.1.num, .string x64.1.den] 25 :: obC b12 [.string x56.1.num, .string x56.1.den] 25 :: []) := hH69
   refine V_as rfl rfl ?_
   refine V_to (fun _ _ => rfl) ?_
   refine C_seq ?_
   refine C_seq ?_
   refine C_region ?_
   refine V_y (Y_loadA (Hp.part (off := 0) (n := 2) (ds := [.string x56.1.num, .string x56.1.den]) hH (i := 1) rfl rfl) Tryd.isAgg25 Tryd.sizeOf25 rfl) rfl rfl rfl ?_
   refine V_y (Y_loadA (Hp.part (off := 0) (n := 2) (ds := [.string x64.1.num, .string x64.1.den]) hH (i := 0) rfl rfl) Tryd.isAgg25 Tryd.sizeOf25 rfl) rfl rfl rfl ?_
   refine V_y (Y_neqA (fun w => Tryd_eqt25_10000 x56.1.num x56.1.den x64.1.num x64.1.den w) Tryd_eqg25 rfl rfl) rfl rfl rfl ?_
   refine V_mv rfl rfl ?_
   refine V_cut 4 (fun _ : Unit => [(1, .int .i64 n), (2, .pointer (some ⟨b1, 0, none⟩)), (5, .pointer (some ⟨b12, 0, none⟩)), (7, .pointer (some ⟨b25, 0, none⟩)), (67, .bool ((!(strEq x56.1.num x64.1.num && (strEq x56.1.den x64.1.den))) || (x56.2 != x64.2)))]) (fun _ w' => w68 = w') ?_ ?_
   ·simp only [List.take, List.drop]
    rcases Bool.eq_false_or_eq_true (!(strEq x56.1.num x64.1.num && (strEq x56.1.den x64.1.den))) with hc71 | hc71
    ·refine V_gn rfl rfl rfl hc71 rfl rfl rfl ?_
     refine V_gn rfl rfl rfl hc71 rfl rfl rfl ?_
     refine V_gn rfl rfl rfl hc71 rfl rfl rfl ?_
     refine V_y (Y_pick_te rfl hc71 rfl) rfl rfl rfl ?_
     exact V_end fun a ha => ⟨(), ha.sub ⟨rfl, rfl, rfl, rfl, (by rw [hc71]; rfl), trivial⟩, rfl⟩
    ·refine V_ge rfl rfl rfl hc71 ?_
     refine V_mv rfl rfl ?_
     refine V_ge rfl rfl rfl hc71 ?_
     refine V_mv rfl rfl ?_
     refine V_ge rfl rfl rfl hc71 ?_
     refine V_y (Y_neq rfl rfl) rfl rfl rfl ?_
     refine V_y (Y_pick_fe rfl hc71 rfl) rfl rfl rfl ?_
     exact V_end fun a ha => ⟨(), ha.sub ⟨rfl, rfl, rfl, rfl, (by rw [hc71]; rfl), trivial⟩, rfl⟩
   simp only [List.take, List.drop]
   rintro _ _ rfl
   refine V_to (fun _ _ => rfl) ?_
   refine C_cond rfl (fun hc73 => ?_) (fun hc73 => ?_)
   ·rw [if_pos hc73] at hm
    refine C_seq ?_
    refine C_region ?_
    refine V_as rfl rfl ?_
    refine V_to (fun _ _ => rfl) ?_
    obtain rfl := Option.some.inj hm
    refine C_ret ?_
    try simp only [↓inBlock_ret, ↓then_ret]
    exact retQ rfl (Res.one Tryd.results3 rfl) ⟨rfl, hK.kp⟩
   ·rw [if_neg (nt hc73)] at hm
    refine C_skip_to (fun _ _ => rfl) ?_
    refine C_seq ?_
    refine C_region ?_
    obtain ⟨h74, _⟩ := El_staff_Load h4
    refine V_y (Y_loadA h74 Tryd.isAgg23 Tryd.sizeOf23 rfl) rfl rfl rfl ?_
    refine V_mv rfl rfl ?_
    obtain ⟨x75, hx75, hm⟩ := Option.bind_eq_some_iff.1 hm
    refine V_call Tryd.call8 rfl rfl rfl rfl (staff_MeanWait_c w68 hA (Tb.tr (Dw := False) hT hK) l n hx75) ?_
    rintro _ w76 ⟨rfl, hk77⟩
    have ht78 := Kp.tr (Dw := False) hk77 hA hB
    replace hH := Hp.kp (Dw := False) hH hk77
    replace h4 := El.tr (Dw := False) h4 ht78
    replace hK := Tr.trans (Dw := False) hK ht78
    replace hB := Nat.le_trans hB ht78.ex.size
    replace hA := ht78.new
    refine V_mv rfl rfl ?_
    refine V_y (Y_extract rfl rfl) rfl rfl rfl ?_
    refine V_y (Y_extract rfl rfl) rfl rfl rfl ?_
    refine V_storeC (Dw := False) (off := 0) (ds := [.string x75.1.num, .string x75.1.den]) hH (i := 1) rfl Tryd.sizeOf25 rfl (Nat.le_of_ble_eq_true rfl) (by simp [Value.cells, Value.oneCell']) rfl hB hA rfl rfl ?_
    intro w79 hH80 ht81
    replace h4 := El.tr (Dw := False) h4 ht81
    replace hK := Tr.trans (Dw := False) hK ht81
    replace hB := Nat.le_trans hB ht81.ex.size
    replace hA := ht81.new
    replace hH : Hp w.heap.size A27 w79 (obC b25 [.string x64.1.num, .string x64.1.den] 25 :: obC b12 [.string x75.1.num, .string x75.1.den] 25 :: []) := hH80
    refine V_as rfl rfl ?_
    refine V_to (fun _ _ => rfl) ?_
    refine C_seq ?_
    refine C_region ?_
    obtain ⟨h82, _⟩ := El_staff_Load h4
    refine V_y (Y_loadA h82 Tryd.isAgg23 Tryd.sizeOf23 rfl) rfl rfl rfl ?_
    refine V_mv rfl rfl ?_
    obtain ⟨x83, hx83, hm⟩ := Option.bind_eq_some_iff.1 hm
    refine V_call Tryd.call5 rfl rfl rfl rfl (portref2_FormulaOf_c (Dw := False) w79 hA (⟨#[109, 101, 97, 110]⟩ : ByteArray) l n hx83) ?_
    rintro _ w84 ⟨rfl, hk85⟩
    have ht86 := Kp.tr (Dw := False) hk85 hA hB
    replace hH := Hp.kp (Dw := False) hH hk85
    replace hK := Tr.trans (Dw := False) hK ht86
    replace hB := Nat.le_trans hB ht86.ex.size
    replace hA := ht86.new
    refine V_mv rfl rfl ?_
    refine V_y (Y_extract rfl rfl) rfl rfl rfl ?_
    refine V_y (Y_extract rfl rfl) rfl rfl rfl ?_
    refine V_storeC (Dw := False) (off := 0) (ds := [.string x83.1.num, .string x83.1.den]) hH (i := 0) rfl Tryd.sizeOf25 rfl (Nat.le_of_ble_eq_true rfl) (by simp [Value.cells, Value.oneCell']) rfl hB hA rfl rfl ?_
    intro w87 hH88 ht89
    replace hK := Tr.trans (Dw := False) hK ht89
    replace hH : Hp w.heap.size A27 w87 (obC b25 [.string x83.1.num, .string x83.1.den] 25 :: obC b12 [.string x75.1.num, .string x75.1.den] 25 :: []) := hH88
    refine V_as rfl rfl ?_
    refine V_to (fun _ _ => rfl) ?_
    refine C_seq ?_
    refine C_region ?_
    refine V_y (Y_loadA (Hp.part (off := 0) (n := 2) (ds := [.string x75.1.num, .string x75.1.den]) hH (i := 1) rfl rfl) Tryd.isAgg25 Tryd.sizeOf25 rfl) rfl rfl rfl ?_
    refine V_y (Y_loadA (Hp.part (off := 0) (n := 2) (ds := [.string x83.1.num, .string x83.1.den]) hH (i := 0) rfl rfl) Tryd.isAgg25 Tryd.sizeOf25 rfl) rfl rfl rfl ?_
    refine V_y (Y_eqlA (fun w => Tryd_eqt25_10000 x75.1.num x75.1.den x83.1.num x83.1.den w) Tryd_eqg25 rfl rfl) rfl rfl rfl ?_
    refine V_mv rfl rfl ?_
    refine V_cut 4 (fun _ : Unit => [(87, .bool ((strEq x75.1.num x83.1.num && (strEq x75.1.den x83.1.den)) && (x75.2 == x83.2)))]) (fun _ w' => w87 = w') ?_ ?_
    ·simp only [List.take, List.drop]
     rcases Bool.eq_false_or_eq_true (strEq x75.1.num x83.1.num && (strEq x75.1.den x83.1.den)) with hc90 | hc90
     ·refine V_ge rfl rfl rfl hc90 ?_
      refine V_mv rfl rfl ?_
      refine V_ge rfl rfl rfl hc90 ?_
      refine V_mv rfl rfl ?_
      refine V_ge rfl rfl rfl hc90 ?_
      refine V_y (Y_eql rfl rfl) rfl rfl rfl ?_
      refine V_y (Y_pick_te rfl hc90 rfl) rfl rfl rfl ?_
      exact V_end fun a ha => ⟨(), ha.sub ⟨(by rw [hc90]; rfl), trivial⟩, rfl⟩
     ·refine V_gn rfl rfl rfl hc90 rfl rfl rfl ?_
      refine V_gn rfl rfl rfl hc90 rfl rfl rfl ?_
      refine V_gn rfl rfl rfl hc90 rfl rfl rfl ?_
      refine V_y (Y_pick_fe rfl hc90 rfl) rfl rfl rfl ?_
      exact V_end fun a ha => ⟨(), ha.sub ⟨(by rw [hc90]; rfl), trivial⟩, rfl⟩
    simp only [List.take, List.drop]
    rintro _ _ rfl
    refine V_as rfl rfl ?_
    refine V_to (fun _ _ => rfl) ?_
    obtain rfl := Option.some.inj hm
    refine C_ret ?_
    try simp only [↓inBlock_ret, ↓then_ret]
    exact retQ rfl (Res.one Tryd.results3 rfl) ⟨rfl, hK.kp⟩

end Go.Proofs.YtbmbgmeggeemcaaDoor.W
