import Derived.Test.YtldkdabcdbgpbaaGreatDoorIndexChangesW4
namespace Go.Proofs.YtldkdabcdbgpbaaGreatDoor.W
open Go Go.RowKit Go.Pu Go.Gw Go.Proofs Go.Proofs.YtldkdabcdbgpbaaGreatDoor.M
set_option linter.unusedVariables false
set_option linter.unusedSimpArgs false
variable {Dw : Prop}
set_option maxHeartbeats 4000000
set_option maxRecDepth 4000
open Tryz
theorem know_Drop_c (w : World) {A : Nat → Prop} (hA : ∀ b, w.heap.size ≤ b → A b) (x : know_Index) (v_x0 : Value) (h_x0 : Sl A w v_x0 x.ids) (v_x1 : Value) (h_x1 : Sl A w v_x1 x.sizes) (v_x2 : Value) (h_x2 : Sl A w v_x2 x.terms) (id_ : Int) {r : (know_Index × Int)} (hm : know_Drop x id_ = some r) : Ret prog 10 #[.agg #[v_x0, v_x1, v_x2], Ii id_] w fun v w' => ∃ s0 s1 s2, v = .tuple #[.agg #[s0, s1, s2], Ii r.2] ∧ Sl A w' s0 r.1.ids ∧ Sl A w' s1 r.1.sizes ∧ Sl A w' s2 r.1.terms ∧ Kp Dw w w' := by
 unfold know_Drop at hm
 refine enter func10 rfl ntmps10 rfl ?_
 have hA0 := hA
 obtain ⟨hB, hK, hH⟩ := St (Dw := Dw) hA
 refine Sr ?_
 refine V_box rfl rfl ?_
 intro b7 w9 h10
 have hk12 := h10.kp (Dw := Dw)
 have h11 : El (α := know_Index) A w9 b7 0 x := h10.el hA ⟨[v_x0], _, rfl, ⟨_, rfl, h_x0⟩, ⟨[v_x1], _, rfl, ⟨_, rfl, h_x1⟩, ⟨_, rfl, h_x2⟩⟩⟩
 have ht13 := Kp.tr hk12 hA hB; replace hH := Hp.kp hH hk12; replace hK := Tt hK ht13; replace hB := Bx hB ht13; replace hA := ht13.new
 refine V_allocH (Dw := Dw) (B := w.heap.size) hH zeroValue26 hB hA rfl ?_
 intro b14 w15 A16 hH17 ht18
 replace h11 := El.tr h11 ht18; replace hK := Tt hK ht18; replace hB := Bx hB ht18; replace hA := ht18.new
 replace hH : Hp _ _ _ (obC b14 [.slice none 0 0, .slice none 0 0, .slice none 0 0] 26 :: []) := hH17
 refine As (To ?_)
 refine C_seq (Sr ?_)
 obtain ⟨v19, v21, v23, h25, h20, h22, h24⟩ := El_know_Index h11
 refine Vy (Y_loadA h25 isAgg26 sizeOf26 rfl) ?_
 obtain ⟨x26, hx26, hm⟩ := Bs hm
 refine Vc call12 (know_CheckIndex_c (Dw := Dw) w15 hA x v19 h20 v21 h22 v23 h24 hx26) ?_
 rintro _ w27 ⟨rfl, hk28⟩
 have ht29 := Kp.tr hk28 hA hB; replace hH := Hp.kp hH hk28; replace h11 := El.tr h11 ht29; replace hK := Tt hK ht29; replace hB := Bx hB ht29; replace hA := ht29.new
 refine As (To ?_)
 refine Sr (Mm (Vy (Y_neq rfl rfl) (To ?_)))
 refine Cc (fun hc30 => ?_) fun hc30 => ?_
 ·rw [if_pos hc30] at hm
  refine Sr ?_
  refine Vy (Y_build underlying26 zeroValue26 (Tryz_places26 _ underlying26) rfl (by with_unfolding_all rfl)) (Mm ?_)
  refine V_storeC (Dw := Dw) (off := 0) (ds := [.slice none 0 0, .slice none 0 0, .slice none 0 0]) hH (i := 0) rfl sizeOf26 rfl (Nat.le_of_ble_eq_true rfl) (by exact (List.forall_mem_cons.2 ⟨rfl, (List.forall_mem_cons.2 ⟨rfl, (List.forall_mem_cons.2 ⟨rfl, (fun _ h => nomatch h)⟩)⟩)⟩)) rfl hB hA rfl rfl ?_
  intro w31 hH32 ht33
  replace hK := Tt hK ht33
  replace hH : Hp _ _ _ (obC b14 [.slice none 0 0, .slice none 0 0, .slice none 0 0] 26 :: []) := hH32
  refine As (To ?_)
  obtain rfl := Oi hm
  refine C_ret ?_
  try simp only [↓ib, ↓th]
  exact retQ rfl (Res.l2 results10 (RL.cell rfl (loadVar_agg (Hp.part (off := 0) (n := 3) (ds := [.slice none 0 0, .slice none 0 0, .slice none 0 0]) hH (i := 0) rfl rfl) isAgg26 sizeOf26)) (RL.tmp rfl)) ⟨.slice none 0 0, .slice none 0 0, .slice none 0 0, rfl, Sl.nil, Sl.nil, Sl.nil, hK.kp⟩
 rw [if_neg (nt hc30)] at hm
 refine Sk ?_
 refine C_seq (Sr ?_)
 have h34 := El_know_Index_0 h11
 refine Fa underlying26 rfl sizeOf23 ?_
 obtain ⟨v35, h36, h37⟩ := El.list h34
 refine Ld h36 isAgg23 (Mm ?_)
 obtain ⟨x38, hx38, hm⟩ := Bs hm
 refine Vc call52 (slices_BinarySearch_Lint_int_c w27 x.ids v35 h37 id_ hx38) ?_
 rintro _ _ ⟨rfl, rfl⟩
 refine Mm (Vy (Y_extract rfl rfl) (Vy (Y_extract rfl rfl) (As (As (To ?_)))))
 refine Sr (Mm (Vy (Y_not rfl) (To ?_)))
 refine Cc (fun hc39 => ?_) fun hc39 => ?_
 ·rw [if_pos hc39] at hm
  refine Sr ?_
  refine Vy (Y_build underlying26 zeroValue26 (Tryz_places26 _ underlying26) rfl (by with_unfolding_all rfl)) ?_
  refine V_storeC (Dw := Dw) (off := 0) (ds := [.slice none 0 0, .slice none 0 0, .slice none 0 0]) hH (i := 0) rfl sizeOf26 rfl (Nat.le_of_ble_eq_true rfl) (by exact (List.forall_mem_cons.2 ⟨rfl, (List.forall_mem_cons.2 ⟨rfl, (List.forall_mem_cons.2 ⟨rfl, (fun _ h => nomatch h)⟩)⟩)⟩)) rfl hB hA rfl rfl ?_
  intro w40 hH41 ht42
  replace hK := Tt hK ht42
  replace hH : Hp _ _ _ (obC b14 [.slice none 0 0, .slice none 0 0, .slice none 0 0] 26 :: []) := hH41
  refine As (To ?_)
  obtain rfl := Oi hm
  refine C_ret ?_
  try simp only [↓ib, ↓th]
  exact retQ rfl (Res.l2 results10 (RL.cell rfl (loadVar_agg (Hp.part (off := 0) (n := 3) (ds := [.slice none 0 0, .slice none 0 0, .slice none 0 0]) hH (i := 0) rfl rfl) isAgg26 sizeOf26)) (RL.tmp rfl)) ⟨.slice none 0 0, .slice none 0 0, .slice none 0 0, rfl, Sl.nil, Sl.nil, Sl.nil, hK.kp⟩
 rw [if_neg (nt hc39)] at hm
 refine Sk ?_
 refine Sr ?_
 obtain ⟨v43, v45, v47, h49, h44, h46, h48⟩ := El_know_Index h11
 refine Vy (Y_loadA h49 isAgg26 sizeOf26 rfl) (Mm ?_)
 obtain ⟨x50, hx50, hm⟩ := Bs hm
 refine Vc call50 (know_Index_without_c (Dw := Dw) w27 hA x v43 h44 v45 h46 v47 h48 id_ hx50) ?_
 rintro _ w57 ⟨v51, v53, v55, rfl, h52, h54, h56, hk58⟩
 have ht59 := Kp.tr hk58 hA hB; replace hH := Hp.kp hH hk58; replace hK := Tt hK ht59; replace hB := Bx hB ht59; replace hA := ht59.new
 have h65 : (v51).oneCell' = true := by obtain ⟨_, _, e, _⟩ := Sl.form h52; rw [e]; rfl
 have h68 : (v53).oneCell' = true := by obtain ⟨_, _, e, _⟩ := Sl.form h54; rw [e]; rfl
 have h71 : (v55).oneCell' = true := by obtain ⟨_, _, e, _⟩ := Sl.form h56; rw [e]; rfl
 refine V_storeC (Dw := Dw) (off := 0) (ds := [v51, v53, v55]) hH (i := 0) rfl sizeOf26 rfl (Nat.le_of_ble_eq_true rfl) (by exact (List.forall_mem_cons.2 ⟨h65, (List.forall_mem_cons.2 ⟨h68, (List.forall_mem_cons.2 ⟨h71, (fun _ h => nomatch h)⟩)⟩)⟩)) rfl hB hA rfl rfl ?_
 intro w60 hH61 ht62
 replace h52 := Sl.tr h52 ht62; replace h54 := Sl.tr h54 ht62; replace h56 := Sl.tr h56 ht62; replace hK := Tt hK ht62
 replace hH : Hp _ _ _ (obC b14 [v51, v53, v55] 26 :: []) := hH61
 refine As (To ?_)
 obtain rfl := Oi hm
 refine C_ret ?_
 try simp only [↓ib, ↓th]
 exact retQ rfl (Res.l2 results10 (RL.cell rfl (loadVar_agg (Hp.part (off := 0) (n := 3) (ds := [v51, v53, v55]) hH (i := 0) rfl rfl) isAgg26 sizeOf26)) (RL.tmp rfl)) ⟨v51, v53, v55, rfl, (Sl.out (Dw := Dw) h52 hA0 hK), (Sl.out (Dw := Dw) h54 hA0 hK), (Sl.out (Dw := Dw) h56 hA0 hK), hK.kp⟩
theorem slices_Contains_Lint_int_c (w : World) {A : Nat → Prop} (s : (List Int)) (v_s : Value) (h_s : Sl A w v_s s) (v : Int) {r : Bool} (hm : slices_Contains_Lint_int s v = some r) : Ret prog 63 #[v_s, Ii v] w fun v w' => v = .bool r ∧ w = w' := by
 unfold slices_Contains_Lint_int at hm
 refine enter func63 rfl ntmps63 rfl ?_
 refine Sr (As (To ?_))
 refine Sr (Mm (Mm ?_))
 obtain ⟨x3, hx3, hm⟩ := Bs hm
 refine Vc call68 (slices_Index_Lint_int_c w s v_s h_s v hx3) ?_
 rintro _ _ ⟨rfl, rfl⟩
 refine Vy (Y_geq rfl rfl) (As (To ?_))
 obtain rfl := Oi hm
 refine Rt (Res.one results63 rfl) ?_
 exact ⟨rfl, rfl⟩
theorem portref2_DropOf_c (w : World) {A : Nat → Prop} (hA : ∀ b, w.heap.size ≤ b → A b) (x : know_Index) (v_x0 : Value) (h_x0 : Sl A w v_x0 x.ids) (v_x1 : Value) (h_x1 : Sl A w v_x1 x.sizes) (v_x2 : Value) (h_x2 : Sl A w v_x2 x.terms) (id_ : Int) {r : (know_Index × Int)} (hm : portref2_DropOf x id_ = some r) : Ret prog 11 #[.agg #[v_x0, v_x1, v_x2], Ii id_] w fun v w' => ∃ s0 s1 s2, v = .tuple #[.agg #[s0, s1, s2], Ii r.2] ∧ Sl A w' s0 r.1.ids ∧ Sl A w' s1 r.1.sizes ∧ Sl A w' s2 r.1.terms ∧ Kp Dw w w' := by
 unfold portref2_DropOf at hm
 refine enter func11 rfl ntmps11 rfl ?_
 have hA0 := hA
 obtain ⟨hB, hK, hH⟩ := St (Dw := Dw) hA
 refine Sr ?_
 refine V_box rfl rfl ?_
 intro b7 w9 h10
 have hk12 := h10.kp (Dw := Dw)
 have h11 : El (α := know_Index) A w9 b7 0 x := h10.el hA ⟨[v_x0], _, rfl, ⟨_, rfl, h_x0⟩, ⟨[v_x1], _, rfl, ⟨_, rfl, h_x1⟩, ⟨_, rfl, h_x2⟩⟩⟩
 have ht13 := Kp.tr hk12 hA hB; replace hH := Hp.kp hH hk12; replace hK := Tt hK ht13; replace hB := Bx hB ht13; replace hA := ht13.new
 refine V_allocH (Dw := Dw) (B := w.heap.size) hH zeroValue26 hB hA rfl ?_
 intro b14 w15 A16 hH17 ht18
 replace h11 := El.tr h11 ht18; replace hK := Tt hK ht18; replace hB := Bx hB ht18; replace hA := ht18.new
 replace hH : Hp _ _ _ (obC b14 [.slice none 0 0, .slice none 0 0, .slice none 0 0] 26 :: []) := hH17
 refine As (To ?_)
 refine C_seq (Sr ?_)
 obtain ⟨v19, v21, v23, h25, h20, h22, h24⟩ := El_know_Index h11
 refine Vy (Y_loadA h25 isAgg26 sizeOf26 rfl) ?_
 obtain ⟨x26, hx26, hm⟩ := Bs hm
 refine Vc call13 (portref2_IndexFault_c (Dw := Dw) w15 hA x v19 h20 v21 h22 v23 h24 hx26) ?_
 rintro _ w27 ⟨rfl, hk28⟩
 have ht29 := Kp.tr hk28 hA hB; replace hH := Hp.kp hH hk28; replace h11 := El.tr h11 ht29; replace hK := Tt hK ht29; replace hB := Bx hB ht29; replace hA := ht29.new
 refine As (To ?_)
 refine Sr (Mm (Vy (Y_neq rfl rfl) (To ?_)))
 refine Cc (fun hc30 => ?_) fun hc30 => ?_
 ·rw [if_pos hc30] at hm
  refine Sr ?_
  refine Vy (Y_build underlying26 zeroValue26 (Tryz_places26 _ underlying26) rfl (by with_unfolding_all rfl)) (Mm ?_)
  refine V_storeC (Dw := Dw) (off := 0) (ds := [.slice none 0 0, .slice none 0 0, .slice none 0 0]) hH (i := 0) rfl sizeOf26 rfl (Nat.le_of_ble_eq_true rfl) (by exact (List.forall_mem_cons.2 ⟨rfl, (List.forall_mem_cons.2 ⟨rfl, (List.forall_mem_cons.2 ⟨rfl, (fun _ h => nomatch h)⟩)⟩)⟩)) rfl hB hA rfl rfl ?_
  intro w31 hH32 ht33
  replace hK := Tt hK ht33
  replace hH : Hp _ _ _ (obC b14 [.slice none 0 0, .slice none 0 0, .slice none 0 0] 26 :: []) := hH32
  refine As (To ?_)
  obtain rfl := Oi hm
  refine C_ret ?_
  try simp only [↓ib, ↓th]
  exact retQ rfl (Res.l2 results11 (RL.cell rfl (loadVar_agg (Hp.part (off := 0) (n := 3) (ds := [.slice none 0 0, .slice none 0 0, .slice none 0 0]) hH (i := 0) rfl rfl) isAgg26 sizeOf26)) (RL.tmp rfl)) ⟨.slice none 0 0, .slice none 0 0, .slice none 0 0, rfl, Sl.nil, Sl.nil, Sl.nil, hK.kp⟩
 rw [if_neg (nt hc30)] at hm
 refine Sk ?_
 refine C_seq (Sr ?_)
 have h34 := El_know_Index_0 h11
 refine Fa underlying26 rfl sizeOf23 ?_
 obtain ⟨v35, h36, h37⟩ := El.list h34
 refine Ld h36 isAgg23 (Mm ?_)
 obtain ⟨x38, hx38, hm⟩ := Bs hm
 refine Vc call63 (slices_Contains_Lint_int_c w27 x.ids v35 h37 id_ hx38) ?_
 rintro _ _ ⟨rfl, rfl⟩
 refine Vy (Y_not rfl) (To ?_)
 refine Cc (fun hc39 => ?_) fun hc39 => ?_
 ·rw [if_pos hc39] at hm
  refine Sr ?_
  refine Vy (Y_build underlying26 zeroValue26 (Tryz_places26 _ underlying26) rfl (by with_unfolding_all rfl)) ?_
  refine V_storeC (Dw := Dw) (off := 0) (ds := [.slice none 0 0, .slice none 0 0, .slice none 0 0]) hH (i := 0) rfl sizeOf26 rfl (Nat.le_of_ble_eq_true rfl) (by exact (List.forall_mem_cons.2 ⟨rfl, (List.forall_mem_cons.2 ⟨rfl, (List.forall_mem_cons.2 ⟨rfl, (fun _ h => nomatch h)⟩)⟩)⟩)) rfl hB hA rfl rfl ?_
  intro w40 hH41 ht42
  replace hK := Tt hK ht42
  replace hH : Hp _ _ _ (obC b14 [.slice none 0 0, .slice none 0 0, .slice none 0 0] 26 :: []) := hH41
  refine As (To ?_)
  obtain rfl := Oi hm
  refine C_ret ?_
  try simp only [↓ib, ↓th]
  exact retQ rfl (Res.l2 results11 (RL.cell rfl (loadVar_agg (Hp.part (off := 0) (n := 3) (ds := [.slice none 0 0, .slice none 0 0, .slice none 0 0]) hH (i := 0) rfl rfl) isAgg26 sizeOf26)) (RL.tmp rfl)) ⟨.slice none 0 0, .slice none 0 0, .slice none 0 0, rfl, Sl.nil, Sl.nil, Sl.nil, hK.kp⟩
 rw [if_neg (nt hc39)] at hm
 refine Sk ?_
 refine Sr ?_
 obtain ⟨v43, v45, v47, h49, h44, h46, h48⟩ := El_know_Index h11
 refine Vy (Y_loadA h49 isAgg26 sizeOf26 rfl) (Mm ?_)
 obtain ⟨x50, hx50, hm⟩ := Bs hm
 refine Vc call51 (portref2_without_c (Dw := Dw) w27 hB hA x v43 h44 v45 h46 v47 h48 id_ hH hx50) ?_
 rintro _ w57 ⟨v51, v53, v55, A58, rfl, hH59, ht60⟩
 replace hK := Tt hK ht60; replace hB := Bx hB ht60; replace hA := ht60.new
 replace hH : Hp _ _ _ (o_3 v51 x50.ids :: o_3 v53 x50.sizes :: o_83 v55 x50.terms :: obC b14 [.slice none 0 0, .slice none 0 0, .slice none 0 0] 26 :: []) := hH59
 have h66 : (v51).oneCell' = true := by obtain ⟨_, _, e, _⟩ := Sl.form (Hp.any (α := Int) (e := 3) (v := v51) (l := x50.ids) hH (i := 0) rfl); rw [e]; rfl
 have h69 : (v53).oneCell' = true := by obtain ⟨_, _, e, _⟩ := Sl.form (Hp.any (α := Int) (e := 3) (v := v53) (l := x50.sizes) hH (i := 1) rfl); rw [e]; rfl
 have h72 : (v55).oneCell' = true := by obtain ⟨_, _, e, _⟩ := Sl.form (Hp.any (α := know_Term) (e := 83) (v := v55) (l := x50.terms) hH (i := 2) rfl); rw [e]; rfl
 refine V_storeC (Dw := Dw) (off := 0) (ds := [v51, v53, v55]) hH (i := 3) rfl sizeOf26 rfl (Nat.le_of_ble_eq_true rfl) (by exact (List.forall_mem_cons.2 ⟨h66, (List.forall_mem_cons.2 ⟨h69, (List.forall_mem_cons.2 ⟨h72, (fun _ h => nomatch h)⟩)⟩)⟩)) rfl hB hA rfl rfl ?_
 intro w61 hH62 ht63
 replace hK := Tt hK ht63; replace hA := ht63.new
 replace hH : Hp _ _ _ (o_3 v51 x50.ids :: o_3 v53 x50.sizes :: o_83 v55 x50.terms :: obC b14 [v51, v53, v55] 26 :: []) := hH62
 refine As (To ?_)
 obtain rfl := Oi hm
 obtain ⟨A73, ht74, h75, hH76⟩ := Hp.freeze (Dw := Dw) (α := Int) (v := v51) (l := x50.ids) hH (i := 0) rfl hA
 replace hK := Tt hK ht74; replace hA := ht74.new
 replace hH : Hp _ _ _ (o_3 v53 x50.sizes :: o_83 v55 x50.terms :: obC b14 [v51, v53, v55] 26 :: []) := hH76
 obtain ⟨A78, ht79, h80, hH81⟩ := Hp.freeze (Dw := Dw) (α := Int) (v := v53) (l := x50.sizes) hH (i := 0) rfl hA
 replace h75 := Sl.tr h75 ht79; replace hK := Tt hK ht79; replace hA := ht79.new
 replace hH : Hp _ _ _ (o_83 v55 x50.terms :: obC b14 [v51, v53, v55] 26 :: []) := hH81
 obtain ⟨A83, ht84, h85, hH86⟩ := Hp.freeze (Dw := Dw) (α := know_Term) (v := v55) (l := x50.terms) hH (i := 0) rfl hA
 replace h75 := Sl.tr h75 ht84; replace h80 := Sl.tr h80 ht84; replace hK := Tt hK ht84
 replace hH : Hp _ _ _ (obC b14 [v51, v53, v55] 26 :: []) := hH86
 refine C_ret ?_
 try simp only [↓ib, ↓th]
 exact retQ rfl (Res.l2 results11 (RL.cell rfl (loadVar_agg (Hp.part (off := 0) (n := 3) (ds := [v51, v53, v55]) hH (i := 0) rfl rfl) isAgg26 sizeOf26)) (RL.tmp rfl)) ⟨v51, v53, v55, rfl, (Sl.out (Dw := Dw) h75 hA0 hK), (Sl.out (Dw := Dw) h80 hA0 hK), (Sl.out (Dw := Dw) h85 hA0 hK), hK.kp⟩
theorem slices_Equal_Lint_int_c (w : World) {A : Nat → Prop} (hA : ∀ b, w.heap.size ≤ b → A b) (s1 : (List Int)) (v_s1 : Value) (h_s1 : Sl A w v_s1 s1) (s2 : (List Int)) (v_s2 : Value) (h_s2 : Sl A w v_s2 s2) {r : Bool} (hm : slices_Equal_Lint_int s1 s2 = some r) : Ret prog 28 #[v_s1, v_s2] w fun v w' => v = .bool r ∧ Kp Dw w w' := by
 unfold slices_Equal_Lint_int at hm
 refine enter func28 rfl ntmps28 rfl ?_
 have hA0 := hA
 obtain ⟨hB, hK, hH⟩ := St (Dw := Dw) hA
 refine Sr (As (To ?_))
 refine C_seq (Sr (Mm (Vy (Y_lenSl h_s1 rfl underlying23 rfl) (Mm (Vy (Y_lenSl h_s2 rfl underlying23 rfl) (Vy (Y_neq rfl rfl) (To ?_)))))))
 refine Cc (fun hc5 => ?_) fun hc5 => ?_
 ·rw [if_pos hc5] at hm
  refine Sr (As (To ?_))
  obtain rfl := Oi hm
  refine Rt (Res.one results28 rfl) ?_
  exact ⟨rfl, hK.kp⟩
 rw [if_neg (nt hc5)] at hm
 refine Sk ?_
 refine C_seq (Sr (Mm (Vy (Y_lenSl h_s1 rfl underlying23 rfl) (Mm (To ?_)))))
 have hn27 := Sl.le h_s1
 obtain ⟨o6, ho6, hm⟩ := Bs hm
 refine C_cutG (ι := (Unit × (Nat → Prop))) (fun ⟨s7, A13⟩ => []) (fun ⟨s7, A13⟩ => fun w' => o6 = .fin s7 ∧ Hp w.heap.size A13 w' ([]) ∧ Tr Dw w.heap.size A w A13 w') ?_ ?_
 ·refine C_block ?_
  refine C_range ho6 (fun k9 _ a w' => ∃ i : (Nat → Prop), Has ⟨26, [], none⟩ a ([(0, v_s1), (1, v_s2), (12, Ii (s1.length : Int)), (13, Ii (k9 : Int))]) ∧ Hp w.heap.size i w' ([]) ∧ Tr Dw w.heap.size A w i w') (fun a ha => ⟨A, ha.sb, ⟨hH, Tr.refl (Dw := Dw) hA⟩⟩) ?_
  rintro K k9 _ a w17 ⟨A18, ha43, hH19, hr8⟩ hle23 K26 h25
  refine C_of ?_ ha43
  replace h_s1 := Sl.tr h_s1 hr8; replace h_s2 := Sl.tr h_s2 hr8; replace hK := Tt hK hr8; replace hB := Bx hB hr8; replace hA := hr8.new; replace hH := hH19
  refine Sr (Vy (Y_lss rfl rfl) (To ?_))
  refine C_seq ?_
  refine Cc (fun hc28 => ?_) fun hc28 => ?_
  ·have hlt24 := lt_of_dec hc28
   obtain ⟨x20, h21, h22⟩ := K26 hlt24
   refine Sk ?_
   refine C_seq (C_block (Sr (Mm (As (To ?_)))))
   refine C_seq ?_
   refine C_region_q (Dw := Dw) Tryz_mixed (by kernel_rfl) ?_
   refine Qm (Qm ?_)
   obtain ⟨x29, hx29, h21⟩ := Bs h21
   refine VQ_indexAddr h_s1 hx29 underlying23 sizeOf3 rfl rfl rfl ?_
   intro b30 o31 h32
   refine Qi h32 isAgg3 (Qm (Qm ?_))
   obtain ⟨x33, hx33, h21⟩ := Bs h21
   refine VQ_indexAddr h_s2 hx33 underlying23 sizeOf3 rfl rfl rfl ?_
   intro b34 o35 h36
   refine Qi h36 isAgg3 (Qv (fun w' hw' => Y_neq rfl rfl) ?_)
   refine VQ_to (fun _ _ => rfl) (fun w37 hk38 => ?_)
   have ht39 := Kp.tr hk38 hA hB; replace hH := Hp.kp hH hk38; replace hK := Tt hK ht39; replace hr8 := Tt hr8 ht39
   refine Cc (fun hc40 => ?_) fun hc40 => ?_
   ·rw [if_pos hc40] at h21
    refine Sr (As (To ?_))
    obtain rfl := Oi h21
    obtain rfl := (h22 : Lp.rt _ = _)
    rw [Lp.andThen_rt] at hm
    obtain rfl := Oi hm
    refine Rt (Res.one results28 rfl) ?_
    exact ⟨rfl, hK.kp⟩
   rw [if_neg (nt hc40)] at h21
   refine Sk ?_
   refine C_region (Vy (Y_addI rfl rfl) (Mm ?_))
   obtain rfl := Oi h21
   refine V_end (fun a ha41 => ?_)
   exact ⟨(), hlt24, h22, ⟨A18, ha41.sub ⟨rfl, rfl, rfl, Ws hlt24 hn27, trivial⟩, ⟨hH, hr8⟩⟩⟩
  refine C_exit (fun a ha42 => ?_)
  exact ⟨((), A18), ha42.sub trivial, ⟨(h25 (eq_of_dec hle23 hc28)).symm, hH, hr8⟩⟩
 rintro ⟨s7, A13⟩ w10 ⟨rfl, hH14, hk11⟩ a ha12
 rw [Lp.andThen_fin] at hm
 replace hK := Tr.trans hK hk11; replace hA := hk11.new; replace hH := hH14
 refine C_at (n := ⟨26, [], none⟩) (fun _ _ => rfl) ?_ ha12
 refine Sr (As (To ?_))
 obtain rfl := Oi hm
 refine Rt (Res.one results28 rfl) ?_
 exact ⟨rfl, hK.kp⟩
theorem slices_EqualFunc_Lknow_Term_Lknow_Term_know_Term_know_Term_c (w : World) {A : Nat → Prop} (hA : ∀ b, w.heap.size ≤ b → A b) (s1 : (List know_Term)) (v_s1 : Value) (h_s1 : Sl A w v_s1 s1) (s2 : (List know_Term)) (v_s2 : Value) (h_s2 : Sl A w v_s2 s2) (eq : know_Term → know_Term → Option Bool) (eq_f : FuncId) (eq_a eq_c : Array Value) (eq_call : ∀ (args : Array Value) (w : World), (callFunc eq_f args).run prog w = .ok (.enter eq_f args) w) (eq_spec : ∀ (w1 : World) (A1 : Nat → Prop), Tr Dw w.heap.size A w A1 w1 → (∀ b, w1.heap.size ≤ b → A1 b) → ∀ (y0 : know_Term) (v1 : Value) (h2 : Sl A1 w1 v1 y0.list_) (y1 : know_Term) (v3 : Value) (h4 : Sl A1 w1 v3 y1.list_) (r : Bool), eq y0 y1 = some r → Ret prog eq_f (eq_a ++ #[.agg #[.string y0.word, v1], .agg #[.string y1.word, v3]] ++ eq_c) w1 fun v w' => v = .bool r ∧ Kp Dw w1 w') {r : Bool} (hm : slices_EqualFunc_Lknow_Term_Lknow_Term_know_Term_know_Term s1 s2 eq = some r) : Ret prog 29 #[v_s1, v_s2, .func (.func eq_f) eq_a eq_c] w fun v w' => v = .bool r ∧ Kp Dw w w' := by
 unfold slices_EqualFunc_Lknow_Term_Lknow_Term_know_Term_know_Term at hm
 refine enter func29 rfl ntmps29 rfl ?_
 have hA0 := hA
 obtain ⟨hB, hK, hH⟩ := St (Dw := Dw) hA
 refine Sr (As (To ?_))
 refine C_seq (Sr (Mm (Vy (Y_lenSl h_s1 rfl underlying24 rfl) (Mm (Vy (Y_lenSl h_s2 rfl underlying24 rfl) (Vy (Y_neq rfl rfl) (To ?_)))))))
 refine Cc (fun hc5 => ?_) fun hc5 => ?_
 ·rw [if_pos hc5] at hm
  refine Sr (As (To ?_))
  obtain rfl := Oi hm
  refine Rt (Res.one results29 rfl) ?_
  exact ⟨rfl, hK.kp⟩
 rw [if_neg (nt hc5)] at hm
 refine Sk ?_
 refine C_seq (Sr (Mm (Vy (Y_lenSl h_s1 rfl underlying24 rfl) (Mm (To ?_)))))
 have hn27 := Sl.le h_s1
 obtain ⟨o6, ho6, hm⟩ := Bs hm
 refine C_cutG (ι := (Unit × (Nat → Prop))) (fun ⟨s7, A13⟩ => []) (fun ⟨s7, A13⟩ => fun w' => o6 = .fin s7 ∧ Hp w.heap.size A13 w' ([]) ∧ Tr Dw w.heap.size A w A13 w') ?_ ?_
 ·refine C_block ?_
  refine C_range ho6 (fun k9 _ a w' => ∃ i : (Nat → Prop), Has ⟨32, [], none⟩ a ([(1, v_s2), (2, .func (.func eq_f) eq_a eq_c), (15, v_s1), (16, Ii (s1.length : Int)), (17, Ii (k9 : Int))]) ∧ Hp w.heap.size i w' ([]) ∧ Tr Dw w.heap.size A w i w') (fun a ha => ⟨A, ha.sb, ⟨hH, Tr.refl (Dw := Dw) hA⟩⟩) ?_
  rintro K k9 _ a w17 ⟨A18, ha78, hH19, hr8⟩ hle23 K26 h25
  refine C_of ?_ ha78
  replace h_s2 := Sl.tr h_s2 hr8; replace h_s1 := Sl.tr h_s1 hr8; replace hK := Tt hK hr8; replace hB := Bx hB hr8; replace hA := hr8.new; replace hH := hH19
  refine Sr (Vy (Y_lss rfl rfl) (To ?_))
  refine C_seq ?_
  refine Cc (fun hc28 => ?_) fun hc28 => ?_
  ·have hlt24 := lt_of_dec hc28
   obtain ⟨x20, h21, h22⟩ := K26 hlt24
   refine Sk ?_
   refine C_seq (C_block (Sr (Mm ?_)))
   obtain ⟨x29, hx29, h21⟩ := Bs h21
   refine V_indexAddr h_s1 hx29 underlying24 sizeOf83 rfl rfl rfl ?_
   intro b30 o31 h32
   obtain ⟨v33, h35, h34⟩ := El_know_Term h32
   refine Vy (Y_loadA h35 isAgg83 sizeOf83 rfl) ?_
   refine V_alloc zeroValue83 rfl ?_
   intro b36 w37 h38
   refine As ?_
   have h43 : (v33).oneCell' = true := by obtain ⟨_, _, e, _⟩ := Sl.form h34; rw [e]; rfl
   refine Sn h38 sizeOf83 ?_
   intro w39 h40
   have hk45 := h40.kp (Dw := Dw)
   have h44 : El (α := know_Term) A18 w39 b36 0 x29 := h40.el hA ⟨[.string x29.word], _, rfl, rfl, ⟨_, rfl, h34⟩⟩
   have ht46 := Kp.tr hk45 hA hB; replace hH := Hp.kp hH hk45; replace h_s2 := Sl.tr h_s2 ht46; replace hK := Tt hK ht46; replace hr8 := Tt hr8 ht46; replace hB := Bx hB ht46; replace hA := ht46.new
   refine To ?_
   refine Sr (Mm (Mm ?_))
   obtain ⟨x47, hx47, h21⟩ := Bs h21
   refine V_indexAddr h_s2 hx47 underlying24 sizeOf83 rfl rfl rfl ?_
   intro b48 o49 h50
   obtain ⟨v51, h53, h52⟩ := El_know_Term h50
   refine Vy (Y_loadA h53 isAgg83 sizeOf83 rfl) ?_
   refine V_alloc zeroValue83 rfl ?_
   intro b54 w55 h56
   have h61 : (v51).oneCell' = true := by obtain ⟨_, _, e, _⟩ := Sl.form h52; rw [e]; rfl
   refine Sn h56 sizeOf83 ?_
   intro w57 h58
   have hk63 := h58.kp (Dw := Dw)
   have h62 : El (α := know_Term) A18 w57 b54 0 x47 := h58.el hA ⟨[.string x47.word], _, rfl, rfl, ⟨_, rfl, h52⟩⟩
   have ht64 := Kp.tr hk63 hA hB; replace hH := Hp.kp hH hk63; replace h44 := El.tr h44 ht64; replace hK := Tt hK ht64; replace hr8 := Tt hr8 ht64; replace hB := Bx hB ht64; replace hA := ht64.new
   refine To ?_
   refine Sr (Mm ?_)
   obtain ⟨v65, h67, h66⟩ := El_know_Term h44
   refine Vy (Y_loadA h67 isAgg83 sizeOf83 rfl) ?_
   obtain ⟨v68, h70, h69⟩ := El_know_Term h62
   refine Vy (Y_loadA h70 isAgg83 sizeOf83 rfl) ?_
   obtain ⟨x71, hx71, h21⟩ := Bs h21
   refine Vc eq_call (eq_spec w57 _ hK hA x29 v65 h66 x47 v68 h69 _ hx71) ?_
   rintro _ w72 ⟨rfl, hk73⟩
   have ht74 := Kp.tr hk73 hA hB; replace hH := Hp.kp hH hk73; replace hK := Tt hK ht74; replace hr8 := Tt hr8 ht74
   refine Vy (Y_not rfl) (To ?_)
   refine Cc (fun hc75 => ?_) fun hc75 => ?_
   ·rw [if_pos hc75] at h21
    refine Sr (As (To ?_))
    obtain rfl := Oi h21
    obtain rfl := (h22 : Lp.rt _ = _)
    rw [Lp.andThen_rt] at hm
    obtain rfl := Oi hm
    refine Rt (Res.one results29 rfl) ?_
    exact ⟨rfl, hK.kp⟩
   rw [if_neg (nt hc75)] at h21
   refine Sk ?_
   refine C_region (Vy (Y_addI rfl rfl) (Mm ?_))
   obtain rfl := Oi h21
   refine V_end (fun a ha76 => ?_)
   exact ⟨(), hlt24, h22, ⟨A18, ha76.sub ⟨rfl, rfl, rfl, rfl, Ws hlt24 hn27, trivial⟩, ⟨hH, hr8⟩⟩⟩
  refine C_exit (fun a ha77 => ?_)
  exact ⟨((), A18), ha77.sub trivial, ⟨(h25 (eq_of_dec hle23 hc28)).symm, hH, hr8⟩⟩
 rintro ⟨s7, A13⟩ w10 ⟨rfl, hH14, hk11⟩ a ha12
 rw [Lp.andThen_fin] at hm
 replace hK := Tr.trans hK hk11; replace hA := hk11.new; replace hH := hH14
 refine C_at (n := ⟨32, [], none⟩) (fun _ _ => rfl) ?_ ha12
 refine Sr (As (To ?_))
 obtain rfl := Oi hm
 refine Rt (Res.one results29 rfl) ?_
 exact ⟨rfl, hK.kp⟩
theorem slices_EqualFunc_Lknow_Posting_Lknow_Posting_know_Posting_know_Posting_c (w : World) {A : Nat → Prop} (hA : ∀ b, w.heap.size ≤ b → A b) (s1 : (List know_Posting)) (v_s1 : Value) (h_s1 : Sl A w v_s1 s1) (s2 : (List know_Posting)) (v_s2 : Value) (h_s2 : Sl A w v_s2 s2) (eq : know_Posting → know_Posting → Option Bool) (eq_f : FuncId) (eq_a eq_c : Array Value) (eq_call : ∀ (args : Array Value) (w : World), (callFunc eq_f args).run prog w = .ok (.enter eq_f args) w) (eq_spec : ∀ (w1 : World) (A1 : Nat → Prop), Tr Dw w.heap.size A w A1 w1 → (∀ b, w1.heap.size ≤ b → A1 b) → ∀ (y0 : know_Posting) (v1 : Value) (h2 : Sl A1 w1 v1 y0.title) (v3 : Value) (h4 : Sl A1 w1 v3 y0.body) (y1 : know_Posting) (v5 : Value) (h6 : Sl A1 w1 v5 y1.title) (v7 : Value) (h8 : Sl A1 w1 v7 y1.body) (r : Bool), eq y0 y1 = some r → Ret prog eq_f (eq_a ++ #[.agg #[Ii y0.id_, v1, v3], .agg #[Ii y1.id_, v5, v7]] ++ eq_c) w1 fun v w' => v = .bool r ∧ Kp Dw w1 w') {r : Bool} (hm : slices_EqualFunc_Lknow_Posting_Lknow_Posting_know_Posting_know_Posting s1 s2 eq = some r) : Ret prog 31 #[v_s1, v_s2, .func (.func eq_f) eq_a eq_c] w fun v w' => v = .bool r ∧ Kp Dw w w' := by
 unfold slices_EqualFunc_Lknow_Posting_Lknow_Posting_know_Posting_know_Posting at hm
 refine enter func31 rfl ntmps31 rfl ?_
 have hA0 := hA
 obtain ⟨hB, hK, hH⟩ := St (Dw := Dw) hA
 refine Sr (As (To ?_))
 refine C_seq (Sr (Mm (Vy (Y_lenSl h_s1 rfl underlying81 rfl) (Mm (Vy (Y_lenSl h_s2 rfl underlying81 rfl) (Vy (Y_neq rfl rfl) (To ?_)))))))
 refine Cc (fun hc5 => ?_) fun hc5 => ?_
 ·rw [if_pos hc5] at hm
  refine Sr (As (To ?_))
  obtain rfl := Oi hm
  refine Rt (Res.one results31 rfl) ?_
  exact ⟨rfl, hK.kp⟩
 rw [if_neg (nt hc5)] at hm
 refine Sk ?_
 refine C_seq (Sr (Mm (Vy (Y_lenSl h_s1 rfl underlying81 rfl) (Mm (To ?_)))))
 have hn27 := Sl.le h_s1
 obtain ⟨o6, ho6, hm⟩ := Bs hm
 refine C_cutG (ι := (Unit × (Nat → Prop))) (fun ⟨s7, A13⟩ => []) (fun ⟨s7, A13⟩ => fun w' => o6 = .fin s7 ∧ Hp w.heap.size A13 w' ([]) ∧ Tr Dw w.heap.size A w A13 w') ?_ ?_
 ·refine C_block ?_
  refine C_range ho6 (fun k9 _ a w' => ∃ i : (Nat → Prop), Has ⟨32, [], none⟩ a ([(1, v_s2), (2, .func (.func eq_f) eq_a eq_c), (15, v_s1), (16, Ii (s1.length : Int)), (17, Ii (k9 : Int))]) ∧ Hp w.heap.size i w' ([]) ∧ Tr Dw w.heap.size A w i w') (fun a ha => ⟨A, ha.sb, ⟨hH, Tr.refl (Dw := Dw) hA⟩⟩) ?_
  rintro K k9 _ a w17 ⟨A18, ha93, hH19, hr8⟩ hle23 K26 h25
  refine C_of ?_ ha93
  replace h_s2 := Sl.tr h_s2 hr8; replace h_s1 := Sl.tr h_s1 hr8; replace hK := Tt hK hr8; replace hB := Bx hB hr8; replace hA := hr8.new; replace hH := hH19
  refine Sr (Vy (Y_lss rfl rfl) (To ?_))
  refine C_seq ?_
  refine Cc (fun hc28 => ?_) fun hc28 => ?_
  ·have hlt24 := lt_of_dec hc28
   obtain ⟨x20, h21, h22⟩ := K26 hlt24
   refine Sk ?_
   refine C_seq (C_block (Sr (Mm ?_)))
   obtain ⟨x29, hx29, h21⟩ := Bs h21
   refine V_indexAddr h_s1 hx29 underlying81 sizeOf86 rfl rfl rfl ?_
   intro b30 o31 h32
   obtain ⟨v33, v35, h37, h34, h36⟩ := El_know_Posting h32
   refine Vy (Y_loadA h37 isAgg86 sizeOf86 rfl) ?_
   refine V_alloc zeroValue86 rfl ?_
   intro b38 w39 h40
   refine As ?_
   have h45 : (v33).oneCell' = true := by obtain ⟨_, _, e, _⟩ := Sl.form h34; rw [e]; rfl
   have h48 : (v35).oneCell' = true := by obtain ⟨_, _, e, _⟩ := Sl.form h36; rw [e]; rfl
   refine Sn h40 sizeOf86 ?_
   intro w41 h42
   have hk50 := h42.kp (Dw := Dw)
   have h49 : El (α := know_Posting) A18 w41 b38 0 x29 := h42.el hA ⟨[Ii x29.id_], _, rfl, rfl, ⟨[v33], _, rfl, ⟨_, rfl, h34⟩, ⟨_, rfl, h36⟩⟩⟩
   have ht51 := Kp.tr hk50 hA hB; replace hH := Hp.kp hH hk50; replace h_s2 := Sl.tr h_s2 ht51; replace hK := Tt hK ht51; replace hr8 := Tt hr8 ht51; replace hB := Bx hB ht51; replace hA := ht51.new
   refine To ?_
   refine Sr (Mm (Mm ?_))
   obtain ⟨x52, hx52, h21⟩ := Bs h21
   refine V_indexAddr h_s2 hx52 underlying81 sizeOf86 rfl rfl rfl ?_
   intro b53 o54 h55
   obtain ⟨v56, v58, h60, h57, h59⟩ := El_know_Posting h55
   refine Vy (Y_loadA h60 isAgg86 sizeOf86 rfl) ?_
   refine V_alloc zeroValue86 rfl ?_
   intro b61 w62 h63
   have h69 : (v56).oneCell' = true := by obtain ⟨_, _, e, _⟩ := Sl.form h57; rw [e]; rfl
   have h72 : (v58).oneCell' = true := by obtain ⟨_, _, e, _⟩ := Sl.form h59; rw [e]; rfl
   refine Sn h63 sizeOf86 ?_
   intro w65 h66
   have hk74 := h66.kp (Dw := Dw)
   have h73 : El (α := know_Posting) A18 w65 b61 0 x52 := h66.el hA ⟨[Ii x52.id_], _, rfl, rfl, ⟨[v56], _, rfl, ⟨_, rfl, h57⟩, ⟨_, rfl, h59⟩⟩⟩
   have ht75 := Kp.tr hk74 hA hB; replace hH := Hp.kp hH hk74; replace h49 := El.tr h49 ht75; replace hK := Tt hK ht75; replace hr8 := Tt hr8 ht75; replace hB := Bx hB ht75; replace hA := ht75.new
   refine To ?_
   refine Sr (Mm ?_)
   obtain ⟨v76, v78, h80, h77, h79⟩ := El_know_Posting h49
   refine Vy (Y_loadA h80 isAgg86 sizeOf86 rfl) ?_
   obtain ⟨v81, v83, h85, h82, h84⟩ := El_know_Posting h73
   refine Vy (Y_loadA h85 isAgg86 sizeOf86 rfl) ?_
   obtain ⟨x86, hx86, h21⟩ := Bs h21
   refine Vc eq_call (eq_spec w65 _ hK hA x29 v76 h77 v78 h79 x52 v81 h82 v83 h84 _ hx86) ?_
   rintro _ w87 ⟨rfl, hk88⟩
   have ht89 := Kp.tr hk88 hA hB; replace hH := Hp.kp hH hk88; replace hK := Tt hK ht89; replace hr8 := Tt hr8 ht89
   refine Vy (Y_not rfl) (To ?_)
   refine Cc (fun hc90 => ?_) fun hc90 => ?_
   ·rw [if_pos hc90] at h21
    refine Sr (As (To ?_))
    obtain rfl := Oi h21
    obtain rfl := (h22 : Lp.rt _ = _)
    rw [Lp.andThen_rt] at hm
    obtain rfl := Oi hm
    refine Rt (Res.one results31 rfl) ?_
    exact ⟨rfl, hK.kp⟩
   rw [if_neg (nt hc90)] at h21
   refine Sk ?_
   refine C_region (Vy (Y_addI rfl rfl) (Mm ?_))
   obtain rfl := Oi h21
   refine V_end (fun a ha91 => ?_)
   exact ⟨(), hlt24, h22, ⟨A18, ha91.sub ⟨rfl, rfl, rfl, rfl, Ws hlt24 hn27, trivial⟩, ⟨hH, hr8⟩⟩⟩
  refine C_exit (fun a ha92 => ?_)
  exact ⟨((), A18), ha92.sub trivial, ⟨(h25 (eq_of_dec hle23 hc28)).symm, hH, hr8⟩⟩
 rintro ⟨s7, A13⟩ w10 ⟨rfl, hH14, hk11⟩ a ha12
 rw [Lp.andThen_fin] at hm
 replace hK := Tr.trans hK hk11; replace hA := hk11.new; replace hH := hH14
 refine C_at (n := ⟨32, [], none⟩) (fun _ _ => rfl) ?_ ha12
 refine Sr (As (To ?_))
 obtain rfl := Oi hm
 refine Rt (Res.one results31 rfl) ?_
 exact ⟨rfl, hK.kp⟩
theorem portref2_Alike_4_1_c (w : World) {A : Nat → Prop} (hA : ∀ b, w.heap.size ≤ b → A b) (p : know_Posting) (v_p0 : Value) (h_p0 : Sl A w v_p0 p.title) (v_p1 : Value) (h_p1 : Sl A w v_p1 p.body) (q : know_Posting) (v_q0 : Value) (h_q0 : Sl A w v_q0 q.title) (v_q1 : Value) (h_q1 : Sl A w v_q1 q.body) {r : Bool} (hm : portref2_Alike_4_1 p q = some r) : Ret prog 32 #[.agg #[Ii p.id_, v_p0, v_p1], .agg #[Ii q.id_, v_q0, v_q1]] w fun v w' => v = .bool r ∧ Kp Dw w w' := by
 unfold portref2_Alike_4_1 at hm
 refine enter func32 rfl ntmps32 rfl ?_
 have hA0 := hA
 obtain ⟨hB, hK, hH⟩ := St (Dw := Dw) hA
 refine Sr ?_
 refine V_box rfl rfl ?_
 intro b9 w10 h11
 have hk13 := h11.kp (Dw := Dw)
 have h12 : El (α := know_Posting) A w10 b9 0 p := h11.el hA ⟨[Ii p.id_], _, rfl, rfl, ⟨[v_p0], _, rfl, ⟨_, rfl, h_p0⟩, ⟨_, rfl, h_p1⟩⟩⟩
 have ht14 := Kp.tr hk13 hA hB; replace hH := Hp.kp hH hk13; replace h_q0 := Sl.tr h_q0 ht14; replace h_q1 := Sl.tr h_q1 ht14; replace hK := Tt hK ht14; replace hB := Bx hB ht14; replace hA := ht14.new
 refine V_box rfl rfl ?_
 intro b15 w17 h18
 have hk20 := h18.kp (Dw := Dw)
 have h19 : El (α := know_Posting) A w17 b15 0 q := h18.el hA ⟨[Ii q.id_], _, rfl, rfl, ⟨[v_q0], _, rfl, ⟨_, rfl, h_q0⟩, ⟨_, rfl, h_q1⟩⟩⟩
 have ht21 := Kp.tr hk20 hA hB; replace hH := Hp.kp hH hk20; replace h12 := El.tr h12 ht21; replace hK := Tt hK ht21; replace hB := Bx hB ht21; replace hA := ht21.new
 refine As (To ?_)
 refine C_seq ?_
 obtain ⟨s23, ho22, hm⟩ := Bs hm
 refine C_cutG (ι := (Nat → Prop)) (fun (A28 : (Nat → Prop)) => [(4, .bool s23)]) (fun (A28 : (Nat → Prop)) => fun w' => Hp w.heap.size A28 w' ([]) ∧ Tr Dw w.heap.size A w17 A28 w') ?_ ?_
 ·have hr24 : Tr Dw w.heap.size A w17 A w17 := Tr.refl (Dw := Dw) hA
  refine C_region ?_
  have h30 := El_know_Posting_0 h12
  refine Fa underlying86 rfl sizeOf3 (Li h30 isAgg3 ?_)
  have h31 := El_know_Posting_0 h19
  refine Fa underlying86 rfl sizeOf3 (Li h31 isAgg3 (Vy (Y_eql rfl rfl) (Mm ?_)))
  rcases Be (p.id_ == q.id_) with hc32 | hc32
  ·rw [if_pos hc32] at ho22
   refine Gf hc32 ?_
   have h33 := El_know_Posting_1 h12
   refine Fa underlying86 rfl sizeOf23 (Gf hc32 ?_)
   obtain ⟨v34, h35, h36⟩ := El.list h33
   refine Ld h35 isAgg23 (Gf hc32 ?_)
   have h37 := El_know_Posting_1 h19
   refine Fa underlying86 rfl sizeOf23 (Gf hc32 ?_)
   obtain ⟨v38, h39, h40⟩ := El.list h37
   refine Ld h39 isAgg23 (Gf hc32 ?_)
   obtain ⟨x41, hx41, ho22⟩ := Bs ho22
   refine Vc call28 (slices_Equal_Lint_int_c (Dw := Dw) w17 hA p.title v34 h36 q.title v38 h40 hx41) ?_
   rintro _ w42 ⟨rfl, hk43⟩
   have ht44 := Kp.tr hk43 hA hB; replace hH := Hp.kp hH hk43; replace h12 := El.tr h12 ht44; replace h19 := El.tr h19 ht44; replace hr24 := Tt hr24 ht44; replace hB := Bx hB ht44; replace hA := ht44.new
   refine Vy (Y_pick_te rfl hc32 rfl) (Mm ?_)
   rcases Be (x41) with hc45 | hc45
   ·rw [if_pos hc45] at ho22
    refine Gf hc45 ?_
    have h46 := El_know_Posting_2 h12
    refine Fa underlying86 rfl sizeOf23 (Gf hc45 ?_)
    obtain ⟨v47, h48, h49⟩ := El.list h46
    refine Ld h48 isAgg23 (Gf hc45 ?_)
    have h50 := El_know_Posting_2 h19
    refine Fa underlying86 rfl sizeOf23 (Gf hc45 ?_)
    obtain ⟨v51, h52, h53⟩ := El.list h50
    refine Ld h52 isAgg23 (Gf hc45 ?_)
    obtain ⟨x54, hx54, ho22⟩ := Bs ho22
    refine Vc call28 (slices_Equal_Lint_int_c (Dw := Dw) w42 hA p.body v47 h49 q.body v51 h53 hx54) ?_
    rintro _ w55 ⟨rfl, hk56⟩
    have ht57 := Kp.tr hk56 hA hB; replace hH := Hp.kp hH hk56; replace hr24 := Tt hr24 ht57
    refine Vy (Y_pick_te rfl hc45 rfl) (As ?_)
    obtain rfl := Oi ho22
    refine V_end (fun a ha58 => ?_)
    exact ⟨A, ha58.sb, ⟨hH, hr24⟩⟩
   rw [if_neg (nt hc45)] at ho22
   refine Gm hc45 (Gm hc45 (Gm hc45 (Gm hc45 (Gm hc45 (Vy (Y_pick_fe rfl hc45 rfl) (As ?_))))))
   obtain rfl := Oi ho22
   refine V_end (fun a ha59 => ?_)
   exact ⟨A, ha59.sb, ⟨hH, hr24⟩⟩
  rw [if_neg (nt hc32)] at ho22
  refine Gm hc32 (Gm hc32 (Gm hc32 (Gm hc32 (Gm hc32 (Vy (Y_pick_fe rfl hc32 rfl) (Mm ?_))))))
  rcases Be (false) with hc60 | hc60
  ·rw [if_pos hc60] at ho22
   refine Gf hc60 ?_
   have h61 := El_know_Posting_2 h12
   refine Fa underlying86 rfl sizeOf23 (Gf hc60 ?_)
   obtain ⟨v62, h63, h64⟩ := El.list h61
   refine Ld h63 isAgg23 (Gf hc60 ?_)
   have h65 := El_know_Posting_2 h19
   refine Fa underlying86 rfl sizeOf23 (Gf hc60 ?_)
   obtain ⟨v66, h67, h68⟩ := El.list h65
   refine Ld h67 isAgg23 (Gf hc60 ?_)
   obtain ⟨x69, hx69, ho22⟩ := Bs ho22
   refine Vc call28 (slices_Equal_Lint_int_c (Dw := Dw) w17 hA p.body v62 h64 q.body v66 h68 hx69) ?_
   rintro _ w70 ⟨rfl, hk71⟩
   have ht72 := Kp.tr hk71 hA hB; replace hH := Hp.kp hH hk71; replace hr24 := Tt hr24 ht72
   refine Vy (Y_pick_te rfl hc60 rfl) (As ?_)
   obtain rfl := Oi ho22
   refine V_end (fun a ha73 => ?_)
   exact ⟨A, ha73.sb, ⟨hH, hr24⟩⟩
  rw [if_neg (nt hc60)] at ho22
  refine Gm hc60 (Gm hc60 (Gm hc60 (Gm hc60 (Gm hc60 (Vy (Y_pick_fe rfl hc60 rfl) (As ?_))))))
  obtain rfl := Oi ho22
  refine V_end (fun a ha74 => ?_)
  exact ⟨A, ha74.sb, ⟨hH, hr24⟩⟩
 rintro A28 w25 ⟨hH29, hk26⟩ a ha27
 replace hK := Tr.trans hK hk26; replace hA := hk26.new; replace hH := hH29
 refine C_at (n := ⟨24, [], none⟩) (fun _ _ => rfl) ?_ ha27
 obtain rfl := Oi hm
 refine Rt (Res.one results32 rfl) ?_
 exact ⟨rfl, hK.kp⟩
theorem portref2_Alike_4_c (w : World) {A : Nat → Prop} (hA : ∀ b, w.heap.size ≤ b → A b) (a_ : know_Term) (v_a_ : Value) (h_a_ : Sl A w v_a_ a_.list_) (b : know_Term) (v_b : Value) (h_b : Sl A w v_b b.list_) {r : Bool} (hm : portref2_Alike_4 a_ b = some r) : Ret prog 30 #[.agg #[.string a_.word, v_a_], .agg #[.string b.word, v_b]] w fun v w' => v = .bool r ∧ Kp Dw w w' := by
 unfold portref2_Alike_4 at hm
 refine enter func30 rfl ntmps30 rfl ?_
 have hA0 := hA
 obtain ⟨hB, hK, hH⟩ := St (Dw := Dw) hA
 refine Sr ?_
 refine V_box rfl rfl ?_
 intro b5 w6 h7
 have hk9 := h7.kp (Dw := Dw)
 have h8 : El (α := know_Term) A w6 b5 0 a_ := h7.el hA ⟨[.string a_.word], _, rfl, rfl, ⟨_, rfl, h_a_⟩⟩
 have ht10 := Kp.tr hk9 hA hB; replace hH := Hp.kp hH hk9; replace h_b := Sl.tr h_b ht10; replace hK := Tt hK ht10; replace hB := Bx hB ht10; replace hA := ht10.new
 refine V_box rfl rfl ?_
 intro b11 w12 h13
 have hk15 := h13.kp (Dw := Dw)
 have h14 : El (α := know_Term) A w12 b11 0 b := h13.el hA ⟨[.string b.word], _, rfl, rfl, ⟨_, rfl, h_b⟩⟩
 have ht16 := Kp.tr hk15 hA hB; replace hH := Hp.kp hH hk15; replace h8 := El.tr h8 ht16; replace hK := Tt hK ht16; replace hB := Bx hB ht16; replace hA := ht16.new
 refine As (To ?_)
 refine C_seq ?_
 obtain ⟨s18, ho17, hm⟩ := Bs hm
 refine C_cutG (ι := (Nat → Prop)) (fun (A23 : (Nat → Prop)) => [(4, .bool s18)]) (fun (A23 : (Nat → Prop)) => fun w' => Hp w.heap.size A23 w' ([]) ∧ Tr Dw w.heap.size A w12 A23 w') ?_ ?_
 ·have hr19 : Tr Dw w.heap.size A w12 A w12 := Tr.refl (Dw := Dw) hA
  refine C_region ?_
  have h25 := El_know_Term_0 h8
  refine Fa underlying83 rfl sizeOf9 (Ld (El.str h25) isAgg9 ?_)
  have h26 := El_know_Term_0 h14
  refine Fa underlying83 rfl sizeOf9 (Ld (El.str h26) isAgg9 (Vy (Y_seql rfl rfl) (Mm ?_)))
  rcases Be (strEq a_.word b.word) with hc27 | hc27
  ·rw [if_pos hc27] at ho17
   refine Gf hc27 ?_
   have h28 := El_know_Term_1 h8
   refine Fa underlying83 rfl sizeOf81 (Gf hc27 ?_)
   obtain ⟨v29, h30, h31⟩ := El.list h28
   refine Ld h30 isAgg81 (Gf hc27 ?_)
   have h32 := El_know_Term_1 h14
   refine Fa underlying83 rfl sizeOf81 (Gf hc27 ?_)
   obtain ⟨v33, h34, h35⟩ := El.list h32
   refine Ld h34 isAgg81 (Gf hc27 ?_)
   obtain ⟨x38, hx38, ho17⟩ := Bs ho17
   refine Vc call31 (slices_EqualFunc_Lknow_Posting_Lknow_Posting_know_Posting_know_Posting_c (Dw := Dw) w12 hA a_.list_ v29 h31 b.list_ v33 h35 (fun y55 y56 => portref2_Alike_4_1 y55 y56) 32 #[] #[] call32 (fun w51 A52 ht53 h54 y39 v40 h41 v42 h43 y44 v45 h46 v47 h48 r49 h50 => (portref2_Alike_4_1_c (Dw := Dw) w51 h54 y39 v40 h41 v42 h43 y44 v45 h46 v47 h48  h50).mono (fun _ _ h => ⟨h.1, h.2⟩)) hx38) ?_
   rintro _ w57 ⟨rfl, hk58⟩
   have ht59 := Kp.tr hk58 hA hB; replace hH := Hp.kp hH hk58; replace hr19 := Tt hr19 ht59
   refine Vy (Y_pick_te rfl hc27 rfl) (As ?_)
   obtain rfl := Oi ho17
   refine V_end (fun a ha60 => ?_)
   exact ⟨A, ha60.sb, ⟨hH, hr19⟩⟩
  rw [if_neg (nt hc27)] at ho17
  refine Gm hc27 (Gm hc27 (Gm hc27 (Gm hc27 (Gm hc27 (Vy (Y_pick_fe rfl hc27 rfl) (As ?_))))))
  obtain rfl := Oi ho17
  refine V_end (fun a ha61 => ?_)
  exact ⟨A, ha61.sb, ⟨hH, hr19⟩⟩
 rintro A23 w20 ⟨hH24, hk21⟩ a ha22
 replace hK := Tr.trans hK hk21; replace hA := hk21.new; replace hH := hH24
 refine C_at (n := ⟨17, [], none⟩) (fun _ _ => rfl) ?_ ha22
 obtain rfl := Oi hm
 refine Rt (Res.one results30 rfl) ?_
 exact ⟨rfl, hK.kp⟩
theorem portref2_Alike_c (w : World) {A : Nat → Prop} (hA : ∀ b, w.heap.size ≤ b → A b) (a_ : know_Index) (v_a_0 : Value) (h_a_0 : Sl A w v_a_0 a_.ids) (v_a_1 : Value) (h_a_1 : Sl A w v_a_1 a_.sizes) (v_a_2 : Value) (h_a_2 : Sl A w v_a_2 a_.terms) (b : know_Index) (v_b0 : Value) (h_b0 : Sl A w v_b0 b.ids) (v_b1 : Value) (h_b1 : Sl A w v_b1 b.sizes) (v_b2 : Value) (h_b2 : Sl A w v_b2 b.terms) {r : Bool} (hm : portref2_Alike a_ b = some r) : Ret prog 7 #[.iface 26 (.agg #[v_a_0, v_a_1, v_a_2]), .iface 26 (.agg #[v_b0, v_b1, v_b2])] w fun v w' => v = .bool r ∧ Kp Dw w w' := by
 unfold portref2_Alike at hm
 refine enter func7 rfl ntmps7 rfl ?_
 have hA0 := hA
 obtain ⟨hB, hK, hH⟩ := St (Dw := Dw) hA
 refine Sr (As (To ?_))
 refine C_seq (Sr (Mm (To ?_)))
 refine C_block (Sr (Vy (Y_asNS underlying48 zeroValue48 (by decide) rfl) (Vy (Y_extract rfl rfl) (Vy (Y_extract rfl rfl) (To ?_)))))
 refine Cc (fun hc => ?_) fun hc => ?_
 ·exact absurd hc (by decide)
 refine Sr (Vy (Y_asNL underlying60 zeroValue60 (by decide) rfl) (Vy (Y_extract rfl rfl) (Vy (Y_extract rfl rfl) (To ?_))))
 refine Cc (fun hc => ?_) fun hc => ?_
 ·exact absurd hc (by decide)
 refine Sr (Vy (Y_asNL underlying70 zeroValue70 (by decide) rfl) (Vy (Y_extract rfl rfl) (Vy (Y_extract rfl rfl) (To ?_))))
 refine Cc (fun hc => ?_) fun hc => ?_
 ·exact absurd hc (by decide)
 refine Sr (Vy (Y_asIS underlying26 rfl) (Vy (Y_extract rfl rfl) (Vy (Y_extract rfl rfl) (To ?_))))
 refine Cc (fun hc => ?_) fun hc => ?_
 ·refine Sr ?_
  refine V_alloc zeroValue26 rfl ?_
  intro b13 w14 h15
  have h21 : (v_a_0).oneCell' = true := by obtain ⟨_, _, e, _⟩ := Sl.form h_a_0; rw [e]; rfl
  have h24 : (v_a_1).oneCell' = true := by obtain ⟨_, _, e, _⟩ := Sl.form h_a_1; rw [e]; rfl
  have h27 : (v_a_2).oneCell' = true := by obtain ⟨_, _, e, _⟩ := Sl.form h_a_2; rw [e]; rfl
  refine Sn h15 sizeOf26 ?_
  intro w17 h18
  have hk29 := h18.kp (Dw := Dw)
  have h28 : El (α := know_Index) A w17 b13 0 a_ := h18.el hA ⟨[v_a_0], _, rfl, ⟨_, rfl, h_a_0⟩, ⟨[v_a_1], _, rfl, ⟨_, rfl, h_a_1⟩, ⟨_, rfl, h_a_2⟩⟩⟩
  have ht30 := Kp.tr hk29 hA hB; replace hH := Hp.kp hH hk29; replace h_b0 := Sl.tr h_b0 ht30; replace h_b1 := Sl.tr h_b1 ht30; replace h_b2 := Sl.tr h_b2 ht30; replace hK := Tt hK ht30; replace hB := Bx hB ht30; replace hA := ht30.new
  refine To ?_
  refine Sr (Mm (Vy (Y_asIS underlying26 rfl) (Mm (Vy (Y_extract rfl rfl) (Vy (Y_extract rfl rfl) ?_)))))
  refine V_alloc zeroValue26 rfl ?_
  intro b31 w33 h34
  have h39 : (v_b0).oneCell' = true := by obtain ⟨_, _, e, _⟩ := Sl.form h_b0; rw [e]; rfl
  have h42 : (v_b1).oneCell' = true := by obtain ⟨_, _, e, _⟩ := Sl.form h_b1; rw [e]; rfl
  have h45 : (v_b2).oneCell' = true := by obtain ⟨_, _, e, _⟩ := Sl.form h_b2; rw [e]; rfl
  refine Sn h34 sizeOf26 ?_
  intro w35 h36
  have hk47 := h36.kp (Dw := Dw)
  have h46 : El (α := know_Index) A w35 b31 0 b := h36.el hA ⟨[v_b0], _, rfl, ⟨_, rfl, h_b0⟩, ⟨[v_b1], _, rfl, ⟨_, rfl, h_b1⟩, ⟨_, rfl, h_b2⟩⟩⟩
  have ht48 := Kp.tr hk47 hA hB; replace hH := Hp.kp hH hk47; replace h28 := El.tr h28 ht48; replace hK := Tt hK ht48; replace hB := Bx hB ht48; replace hA := ht48.new
  refine As (To ?_)
  refine C_seq ?_
  obtain ⟨s50, ho49, hm⟩ := Bs hm
  refine C_cutG (ι := (Nat → Prop)) (fun (A55 : (Nat → Prop)) => [(4, .bool s50)]) (fun (A55 : (Nat → Prop)) => fun w' => Hp w.heap.size A55 w' ([]) ∧ Tr Dw w.heap.size A w35 A55 w') ?_ ?_
  ·have hr51 : Tr Dw w.heap.size A w35 A w35 := Tr.refl (Dw := Dw) hA
   refine C_region (Mm (Mm ?_))
   rcases Be (true) with hc57 | hc57
   ·rw [if_pos hc57] at ho49
    refine Gf hc57 ?_
    have h58 := El_know_Index_0 h28
    refine Fa underlying26 rfl sizeOf23 (Gf hc57 ?_)
    obtain ⟨v59, h60, h61⟩ := El.list h58
    refine Ld h60 isAgg23 (Gf hc57 ?_)
    have h62 := El_know_Index_0 h46
    refine Fa underlying26 rfl sizeOf23 (Gf hc57 ?_)
    obtain ⟨v63, h64, h65⟩ := El.list h62
    refine Ld h64 isAgg23 (Gf hc57 ?_)
    obtain ⟨x66, hx66, ho49⟩ := Bs ho49
    refine Vc call28 (slices_Equal_Lint_int_c (Dw := Dw) w35 hA a_.ids v59 h61 b.ids v63 h65 hx66) ?_
    rintro _ w67 ⟨rfl, hk68⟩
    have ht69 := Kp.tr hk68 hA hB; replace hH := Hp.kp hH hk68; replace h28 := El.tr h28 ht69; replace h46 := El.tr h46 ht69; replace hr51 := Tt hr51 ht69; replace hB := Bx hB ht69; replace hA := ht69.new
    refine Vy (Y_pick_te rfl hc57 rfl) (Mm ?_)
    rcases Be (x66) with hc70 | hc70
    ·rw [if_pos hc70] at ho49
     refine Gf hc70 ?_
     have h71 := El_know_Index_1 h28
     refine Fa underlying26 rfl sizeOf23 (Gf hc70 ?_)
     obtain ⟨v72, h73, h74⟩ := El.list h71
     refine Ld h73 isAgg23 (Gf hc70 ?_)
     have h75 := El_know_Index_1 h46
     refine Fa underlying26 rfl sizeOf23 (Gf hc70 ?_)
     obtain ⟨v76, h77, h78⟩ := El.list h75
     refine Ld h77 isAgg23 (Gf hc70 ?_)
     obtain ⟨x79, hx79, ho49⟩ := Bs ho49
     refine Vc call28 (slices_Equal_Lint_int_c (Dw := Dw) w67 hA a_.sizes v72 h74 b.sizes v76 h78 hx79) ?_
     rintro _ w80 ⟨rfl, hk81⟩
     have ht82 := Kp.tr hk81 hA hB; replace hH := Hp.kp hH hk81; replace h28 := El.tr h28 ht82; replace h46 := El.tr h46 ht82; replace hr51 := Tt hr51 ht82; replace hB := Bx hB ht82; replace hA := ht82.new
     refine Vy (Y_pick_te rfl hc70 rfl) (Mm ?_)
     rcases Be (x79) with hc83 | hc83
     ·rw [if_pos hc83] at ho49
      refine Gf hc83 ?_
      have h84 := El_know_Index_2 h28
      refine Fa underlying26 rfl sizeOf24 (Gf hc83 ?_)
      obtain ⟨v85, h86, h87⟩ := El.list h84
      refine Ld h86 isAgg24 (Gf hc83 ?_)
      have h88 := El_know_Index_2 h46
      refine Fa underlying26 rfl sizeOf24 (Gf hc83 ?_)
      obtain ⟨v89, h90, h91⟩ := El.list h88
      refine Ld h90 isAgg24 (Gf hc83 ?_)
      obtain ⟨x94, hx94, ho49⟩ := Bs ho49
      refine Vc call29 (slices_EqualFunc_Lknow_Term_Lknow_Term_know_Term_know_Term_c (Dw := Dw) w80 hA a_.terms v85 h87 b.terms v89 h91 (fun y107 y108 => portref2_Alike_4 y107 y108) 30 #[] #[] call30 (fun w103 A104 ht105 h106 y95 v96 h97 y98 v99 h100 r101 h102 => (portref2_Alike_4_c (Dw := Dw) w103 h106 y95 v96 h97 y98 v99 h100  h102).mono (fun _ _ h => ⟨h.1, h.2⟩)) hx94) ?_
      rintro _ w109 ⟨rfl, hk110⟩
      have ht111 := Kp.tr hk110 hA hB; replace hH := Hp.kp hH hk110; replace hr51 := Tt hr51 ht111
      refine Vy (Y_pick_te rfl hc83 rfl) (As ?_)
      obtain rfl := Oi ho49
      refine V_end (fun a ha112 => ?_)
      exact ⟨A, ha112.sb, ⟨hH, hr51⟩⟩
     rw [if_neg (nt hc83)] at ho49
     refine Gm hc83 (Gm hc83 (Gm hc83 (Gm hc83 (Gm hc83 (Vy (Y_pick_fe rfl hc83 rfl) (As ?_))))))
     obtain rfl := Oi ho49
     refine V_end (fun a ha113 => ?_)
     exact ⟨A, ha113.sb, ⟨hH, hr51⟩⟩
    rw [if_neg (nt hc70)] at ho49
    refine Gm hc70 (Gm hc70 (Gm hc70 (Gm hc70 (Gm hc70 (Vy (Y_pick_fe rfl hc70 rfl) (Mm ?_))))))
    rcases Be (false) with hc114 | hc114
    ·rw [if_pos hc114] at ho49
     refine Gf hc114 ?_
     have h115 := El_know_Index_2 h28
     refine Fa underlying26 rfl sizeOf24 (Gf hc114 ?_)
     obtain ⟨v116, h117, h118⟩ := El.list h115
     refine Ld h117 isAgg24 (Gf hc114 ?_)
     have h119 := El_know_Index_2 h46
     refine Fa underlying26 rfl sizeOf24 (Gf hc114 ?_)
     obtain ⟨v120, h121, h122⟩ := El.list h119
     refine Ld h121 isAgg24 (Gf hc114 ?_)
     obtain ⟨x125, hx125, ho49⟩ := Bs ho49
     refine Vc call29 (slices_EqualFunc_Lknow_Term_Lknow_Term_know_Term_know_Term_c (Dw := Dw) w67 hA a_.terms v116 h118 b.terms v120 h122 (fun y138 y139 => portref2_Alike_4 y138 y139) 30 #[] #[] call30 (fun w134 A135 ht136 h137 y126 v127 h128 y129 v130 h131 r132 h133 => (portref2_Alike_4_c (Dw := Dw) w134 h137 y126 v127 h128 y129 v130 h131  h133).mono (fun _ _ h => ⟨h.1, h.2⟩)) hx125) ?_
     rintro _ w140 ⟨rfl, hk141⟩
     have ht142 := Kp.tr hk141 hA hB; replace hH := Hp.kp hH hk141; replace hr51 := Tt hr51 ht142
     refine Vy (Y_pick_te rfl hc114 rfl) (As ?_)
     obtain rfl := Oi ho49
     refine V_end (fun a ha143 => ?_)
     exact ⟨A, ha143.sb, ⟨hH, hr51⟩⟩
    rw [if_neg (nt hc114)] at ho49
    refine Gm hc114 (Gm hc114 (Gm hc114 (Gm hc114 (Gm hc114 (Vy (Y_pick_fe rfl hc114 rfl) (As ?_))))))
    obtain rfl := Oi ho49
    refine V_end (fun a ha144 => ?_)
    exact ⟨A, ha144.sb, ⟨hH, hr51⟩⟩
   rw [if_neg (nt hc57)] at ho49
   refine Gm hc57 (Gm hc57 (Gm hc57 (Gm hc57 (Gm hc57 (Vy (Y_pick_fe rfl hc57 rfl) (Mm ?_))))))
   rcases Be (false) with hc145 | hc145
   ·rw [if_pos hc145] at ho49
    refine Gf hc145 ?_
    have h146 := El_know_Index_1 h28
    refine Fa underlying26 rfl sizeOf23 (Gf hc145 ?_)
    obtain ⟨v147, h148, h149⟩ := El.list h146
    refine Ld h148 isAgg23 (Gf hc145 ?_)
    have h150 := El_know_Index_1 h46
    refine Fa underlying26 rfl sizeOf23 (Gf hc145 ?_)
    obtain ⟨v151, h152, h153⟩ := El.list h150
    refine Ld h152 isAgg23 (Gf hc145 ?_)
    obtain ⟨x154, hx154, ho49⟩ := Bs ho49
    refine Vc call28 (slices_Equal_Lint_int_c (Dw := Dw) w35 hA a_.sizes v147 h149 b.sizes v151 h153 hx154) ?_
    rintro _ w155 ⟨rfl, hk156⟩
    have ht157 := Kp.tr hk156 hA hB; replace hH := Hp.kp hH hk156; replace h28 := El.tr h28 ht157; replace h46 := El.tr h46 ht157; replace hr51 := Tt hr51 ht157; replace hB := Bx hB ht157; replace hA := ht157.new
    refine Vy (Y_pick_te rfl hc145 rfl) (Mm ?_)
    rcases Be (x154) with hc158 | hc158
    ·rw [if_pos hc158] at ho49
     refine Gf hc158 ?_
     have h159 := El_know_Index_2 h28
     refine Fa underlying26 rfl sizeOf24 (Gf hc158 ?_)
     obtain ⟨v160, h161, h162⟩ := El.list h159
     refine Ld h161 isAgg24 (Gf hc158 ?_)
     have h163 := El_know_Index_2 h46
     refine Fa underlying26 rfl sizeOf24 (Gf hc158 ?_)
     obtain ⟨v164, h165, h166⟩ := El.list h163
     refine Ld h165 isAgg24 (Gf hc158 ?_)
     obtain ⟨x169, hx169, ho49⟩ := Bs ho49
     refine Vc call29 (slices_EqualFunc_Lknow_Term_Lknow_Term_know_Term_know_Term_c (Dw := Dw) w155 hA a_.terms v160 h162 b.terms v164 h166 (fun y182 y183 => portref2_Alike_4 y182 y183) 30 #[] #[] call30 (fun w178 A179 ht180 h181 y170 v171 h172 y173 v174 h175 r176 h177 => (portref2_Alike_4_c (Dw := Dw) w178 h181 y170 v171 h172 y173 v174 h175  h177).mono (fun _ _ h => ⟨h.1, h.2⟩)) hx169) ?_
     rintro _ w184 ⟨rfl, hk185⟩
     have ht186 := Kp.tr hk185 hA hB; replace hH := Hp.kp hH hk185; replace hr51 := Tt hr51 ht186
     refine Vy (Y_pick_te rfl hc158 rfl) (As ?_)
     obtain rfl := Oi ho49
     refine V_end (fun a ha187 => ?_)
     exact ⟨A, ha187.sb, ⟨hH, hr51⟩⟩
    rw [if_neg (nt hc158)] at ho49
    refine Gm hc158 (Gm hc158 (Gm hc158 (Gm hc158 (Gm hc158 (Vy (Y_pick_fe rfl hc158 rfl) (As ?_))))))
    obtain rfl := Oi ho49
    refine V_end (fun a ha188 => ?_)
    exact ⟨A, ha188.sb, ⟨hH, hr51⟩⟩
   rw [if_neg (nt hc145)] at ho49
   refine Gm hc145 (Gm hc145 (Gm hc145 (Gm hc145 (Gm hc145 (Vy (Y_pick_fe rfl hc145 rfl) (Mm ?_))))))
   rcases Be (false) with hc189 | hc189
   ·rw [if_pos hc189] at ho49
    refine Gf hc189 ?_
    have h190 := El_know_Index_2 h28
    refine Fa underlying26 rfl sizeOf24 (Gf hc189 ?_)
    obtain ⟨v191, h192, h193⟩ := El.list h190
    refine Ld h192 isAgg24 (Gf hc189 ?_)
    have h194 := El_know_Index_2 h46
    refine Fa underlying26 rfl sizeOf24 (Gf hc189 ?_)
    obtain ⟨v195, h196, h197⟩ := El.list h194
    refine Ld h196 isAgg24 (Gf hc189 ?_)
    obtain ⟨x200, hx200, ho49⟩ := Bs ho49
    refine Vc call29 (slices_EqualFunc_Lknow_Term_Lknow_Term_know_Term_know_Term_c (Dw := Dw) w35 hA a_.terms v191 h193 b.terms v195 h197 (fun y213 y214 => portref2_Alike_4 y213 y214) 30 #[] #[] call30 (fun w209 A210 ht211 h212 y201 v202 h203 y204 v205 h206 r207 h208 => (portref2_Alike_4_c (Dw := Dw) w209 h212 y201 v202 h203 y204 v205 h206  h208).mono (fun _ _ h => ⟨h.1, h.2⟩)) hx200) ?_
    rintro _ w215 ⟨rfl, hk216⟩
    have ht217 := Kp.tr hk216 hA hB; replace hH := Hp.kp hH hk216; replace hr51 := Tt hr51 ht217
    refine Vy (Y_pick_te rfl hc189 rfl) (As ?_)
    obtain rfl := Oi ho49
    refine V_end (fun a ha218 => ?_)
    exact ⟨A, ha218.sb, ⟨hH, hr51⟩⟩
   rw [if_neg (nt hc189)] at ho49
   refine Gm hc189 (Gm hc189 (Gm hc189 (Gm hc189 (Gm hc189 (Vy (Y_pick_fe rfl hc189 rfl) (As ?_))))))
   obtain rfl := Oi ho49
   refine V_end (fun a ha219 => ?_)
   exact ⟨A, ha219.sb, ⟨hH, hr51⟩⟩
  rintro A55 w52 ⟨hH56, hk53⟩ a ha54
  replace hK := Tr.trans hK hk53; replace hA := hk53.new; replace hH := hH56
  refine C_at (n := ⟨248, [], none⟩) (fun _ _ => rfl) ?_ ha54
  obtain rfl := Oi hm
  refine Rt (Res.one results7 rfl) ?_
  exact ⟨rfl, hK.kp⟩
 exact absurd hc (by decide)
theorem portlaw2_IndexChanges_c (w : World) {A : Nat → Prop} (hA : ∀ b, w.heap.size ≤ b → A b) (hT : Mx prog 0 A w) (x : know_Index) (v_x0 : Value) (h_x0 : Sl A w v_x0 x.ids) (v_x1 : Value) (h_x1 : Sl A w v_x1 x.sizes) (v_x2 : Value) (h_x2 : Sl A w v_x2 x.terms) (v : know_Entry) (id_ : Int) {r : Bool} (hm : portlaw2_IndexChanges x v id_ = some r) : Ret prog 4 #[.agg #[v_x0, v_x1, v_x2], .agg #[Ii v.id_, .string v.title, .string v.body], Ii id_] w fun v w' => v = .bool r ∧ Kp False w w' := by
 unfold portlaw2_IndexChanges at hm
 refine enter func4 rfl ntmps4 rfl ?_
 have hA0 := hA
 obtain ⟨hB, hK, hH⟩ := St (Dw := False) hA
 refine Sr ?_
 refine V_box rfl rfl ?_
 intro b7 w9 h10
 have hk12 := h10.kp (Dw := False)
 have h11 : El (α := know_Index) A w9 b7 0 x := h10.el hA ⟨[v_x0], _, rfl, ⟨_, rfl, h_x0⟩, ⟨[v_x1], _, rfl, ⟨_, rfl, h_x1⟩, ⟨_, rfl, h_x2⟩⟩⟩
 have ht13 := Kp.tr hk12 hA hB; replace hK := Tt hK ht13; replace hB := Bx hB ht13; replace hA := ht13.new
 refine V_box rfl rfl ?_
 intro b14 w15 h16
 have hk18 := h16.kp (Dw := False)
 have h17 : El (α := know_Entry) A w15 b14 0 v := h16.el hA ⟨[Ii v.id_], _, rfl, rfl, ⟨[.string v.title], _, rfl, rfl, rfl⟩⟩
 have ht19 := Kp.tr hk18 hA hB; replace h11 := El.tr h11 ht19; replace hK := Tt hK ht19; replace hB := Bx hB ht19; replace hA := ht19.new
 refine As (To ?_)
 refine Sr ?_
 obtain ⟨v20, v22, v24, h26, h21, h23, h25⟩ := El_know_Index h11
 refine Vy (Y_loadA h26 isAgg26 sizeOf26 rfl) ?_
 obtain ⟨h27, _⟩ := El_know_Entry h17
 refine Vy (Y_loadA h27 isAgg33 sizeOf33 rfl) ?_
 obtain ⟨x28, hx28, hm⟩ := Bs hm
 refine Vc call8 (know_Put_c (Dw := False) w15 hA x v20 h21 v22 h23 v24 h25 v hx28) ?_
 rintro _ w35 ⟨v29, v31, v33, rfl, h30, h32, h34, hk36⟩
 have ht37 := Kp.tr hk36 hA hB; replace h11 := El.tr h11 ht37; replace h17 := El.tr h17 ht37; replace hK := Tt hK ht37; replace hB := Bx hB ht37; replace hA := ht37.new
 refine Mm (Vy (Y_extract rfl rfl) (Vy (Y_extract rfl rfl) ?_))
 refine V_alloc zeroValue26 rfl ?_
 intro b38 w39 h40
 have h45 : (v29).oneCell' = true := by obtain ⟨_, _, e, _⟩ := Sl.form h30; rw [e]; rfl
 have h48 : (v31).oneCell' = true := by obtain ⟨_, _, e, _⟩ := Sl.form h32; rw [e]; rfl
 have h51 : (v33).oneCell' = true := by obtain ⟨_, _, e, _⟩ := Sl.form h34; rw [e]; rfl
 refine Sn h40 sizeOf26 ?_
 intro w41 h42
 have hk53 := h42.kp (Dw := False)
 have h52 : El (α := know_Index) A w41 b38 0 x28.1 := h42.el hA ⟨[v29], _, rfl, ⟨_, rfl, h30⟩, ⟨[v31], _, rfl, ⟨_, rfl, h32⟩, ⟨_, rfl, h34⟩⟩⟩
 have ht54 := Kp.tr hk53 hA hB; replace h11 := El.tr h11 ht54; replace h17 := El.tr h17 ht54; replace hK := Tt hK ht54; replace hB := Bx hB ht54; replace hA := ht54.new
 refine As (To ?_)
 refine Sr ?_
 obtain ⟨v55, v57, v59, h61, h56, h58, h60⟩ := El_know_Index h11
 refine Vy (Y_loadA h61 isAgg26 sizeOf26 rfl) ?_
 obtain ⟨h62, _⟩ := El_know_Entry h17
 refine Vy (Y_loadA h62 isAgg33 sizeOf33 rfl) ?_
 obtain ⟨x63, hx63, hm⟩ := Bs hm
 refine Vc call9 (portref2_PutOf_c w41 hA (Mx.tr (Dw := False) hT hK) x v55 h56 v57 h58 v59 h60 v hx63) ?_
 rintro _ w70 ⟨v64, v66, v68, rfl, h65, h67, h69, hk71⟩
 have ht72 := Kp.tr hk71 hA hB; replace h11 := El.tr h11 ht72; replace h52 := El.tr h52 ht72; replace hK := Tt hK ht72; replace hB := Bx hB ht72; replace hA := ht72.new
 refine Mm (Vy (Y_extract rfl rfl) (Vy (Y_extract rfl rfl) ?_))
 refine V_alloc zeroValue26 rfl ?_
 intro b73 w74 h75
 have h80 : (v64).oneCell' = true := by obtain ⟨_, _, e, _⟩ := Sl.form h65; rw [e]; rfl
 have h83 : (v66).oneCell' = true := by obtain ⟨_, _, e, _⟩ := Sl.form h67; rw [e]; rfl
 have h86 : (v68).oneCell' = true := by obtain ⟨_, _, e, _⟩ := Sl.form h69; rw [e]; rfl
 refine Sn h75 sizeOf26 ?_
 intro w76 h77
 have hk88 := h77.kp (Dw := False)
 have h87 : El (α := know_Index) A w76 b73 0 x63.1 := h77.el hA ⟨[v64], _, rfl, ⟨_, rfl, h65⟩, ⟨[v66], _, rfl, ⟨_, rfl, h67⟩, ⟨_, rfl, h69⟩⟩⟩
 have ht89 := Kp.tr hk88 hA hB; replace h11 := El.tr h11 ht89; replace h52 := El.tr h52 ht89; replace hK := Tt hK ht89; replace hB := Bx hB ht89; replace hA := ht89.new
 refine As (To ?_)
 refine Sr ?_
 obtain ⟨v90, v92, v94, h96, h91, h93, h95⟩ := El_know_Index h11
 refine Vy (Y_loadA h96 isAgg26 sizeOf26 rfl) (Mm ?_)
 obtain ⟨x97, hx97, hm⟩ := Bs hm
 refine Vc call10 (know_Drop_c (Dw := False) w76 hA x v90 h91 v92 h93 v94 h95 id_ hx97) ?_
 rintro _ w104 ⟨v98, v100, v102, rfl, h99, h101, h103, hk105⟩
 have ht106 := Kp.tr hk105 hA hB; replace h11 := El.tr h11 ht106; replace h52 := El.tr h52 ht106; replace h87 := El.tr h87 ht106; replace hK := Tt hK ht106; replace hB := Bx hB ht106; replace hA := ht106.new
 refine Mm (Vy (Y_extract rfl rfl) (Vy (Y_extract rfl rfl) ?_))
 refine V_alloc zeroValue26 rfl ?_
 intro b107 w108 h109
 have h114 : (v98).oneCell' = true := by obtain ⟨_, _, e, _⟩ := Sl.form h99; rw [e]; rfl
 have h117 : (v100).oneCell' = true := by obtain ⟨_, _, e, _⟩ := Sl.form h101; rw [e]; rfl
 have h120 : (v102).oneCell' = true := by obtain ⟨_, _, e, _⟩ := Sl.form h103; rw [e]; rfl
 refine Sn h109 sizeOf26 ?_
 intro w110 h111
 have hk122 := h111.kp (Dw := False)
 have h121 : El (α := know_Index) A w110 b107 0 x97.1 := h111.el hA ⟨[v98], _, rfl, ⟨_, rfl, h99⟩, ⟨[v100], _, rfl, ⟨_, rfl, h101⟩, ⟨_, rfl, h103⟩⟩⟩
 have ht123 := Kp.tr hk122 hA hB; replace h11 := El.tr h11 ht123; replace h52 := El.tr h52 ht123; replace h87 := El.tr h87 ht123; replace hK := Tt hK ht123; replace hB := Bx hB ht123; replace hA := ht123.new
 refine As (To ?_)
 refine Sr ?_
 obtain ⟨v124, v126, v128, h130, h125, h127, h129⟩ := El_know_Index h11
 refine Vy (Y_loadA h130 isAgg26 sizeOf26 rfl) (Mm ?_)
 obtain ⟨x131, hx131, hm⟩ := Bs hm
 refine Vc call11 (portref2_DropOf_c (Dw := False) w110 hA x v124 h125 v126 h127 v128 h129 id_ hx131) ?_
 rintro _ w138 ⟨v132, v134, v136, rfl, h133, h135, h137, hk139⟩
 have ht140 := Kp.tr hk139 hA hB; replace h11 := El.tr h11 ht140; replace h52 := El.tr h52 ht140; replace h87 := El.tr h87 ht140; replace h121 := El.tr h121 ht140; replace hK := Tt hK ht140; replace hB := Bx hB ht140; replace hA := ht140.new
 refine Mm (Vy (Y_extract rfl rfl) (Vy (Y_extract rfl rfl) ?_))
 refine V_alloc zeroValue26 rfl ?_
 intro b141 w142 h143
 have h148 : (v132).oneCell' = true := by obtain ⟨_, _, e, _⟩ := Sl.form h133; rw [e]; rfl
 have h151 : (v134).oneCell' = true := by obtain ⟨_, _, e, _⟩ := Sl.form h135; rw [e]; rfl
 have h154 : (v136).oneCell' = true := by obtain ⟨_, _, e, _⟩ := Sl.form h137; rw [e]; rfl
 refine Sn h143 sizeOf26 ?_
 intro w144 h145
 have hk156 := h145.kp (Dw := False)
 have h155 : El (α := know_Index) A w144 b141 0 x131.1 := h145.el hA ⟨[v132], _, rfl, ⟨_, rfl, h133⟩, ⟨[v134], _, rfl, ⟨_, rfl, h135⟩, ⟨_, rfl, h137⟩⟩⟩
 have ht157 := Kp.tr hk156 hA hB; replace h11 := El.tr h11 ht157; replace h52 := El.tr h52 ht157; replace h87 := El.tr h87 ht157; replace h121 := El.tr h121 ht157; replace hK := Tt hK ht157; replace hB := Bx hB ht157; replace hA := ht157.new
 refine As (To ?_)
 refine C_seq ?_
 refine C_region_q (Dw := False) Tryz_mixed (by kernel_rfl) ?_
 refine Qm (Qm (Qv (fun w' hw' => Y_eql rfl rfl) (Qm ?_)))
 refine VQ_cut 4 (fun _ : Unit => [(3, Pt b7), (7, Pt b38), (9, Pt b73), (11, Pt b107), (13, Pt b141), (46, .bool ((x28.2 == x63.2) && (x97.2 == x131.2)))]) (fun _ => True) ?_ ?_
 ·simp only [List.take, List.drop]
  rcases Be (x28.2 == x63.2) with hc158 | hc158
  ·refine Qh hc158 (Qm (Qh hc158 (Qm (Qh hc158 (Qv (fun w' hw' => Y_eql rfl rfl) ?_)))))
   refine VQ_y (fun _ _ => Y_pick_te rfl hc158 rfl) rfl rfl rfl ?_
   exact VQ_end fun a ha => ⟨(), ha.sub ⟨rfl, rfl, rfl, rfl, rfl, (by rw [hc158]; rfl), trivial⟩, trivial⟩
  refine Qg hc158 (Qg hc158 (Qg hc158 ?_))
  refine VQ_y (fun _ _ => Y_pick_fe rfl hc158 rfl) rfl rfl rfl ?_
  exact VQ_end fun a ha => ⟨(), ha.sub ⟨rfl, rfl, rfl, rfl, rfl, (by rw [hc158]; rfl), trivial⟩, trivial⟩
 simp only [List.take, List.drop]
 rintro _ _
 refine Qm ?_
 obtain ⟨s161, hs161, hm⟩ := Bs hm
 refine VQ_cut 6 (fun _ : Unit => [(3, Pt b7), (11, Pt b107), (13, Pt b141), (53, .bool s161)]) (fun _ => True) ?_ ?_
 ·simp only [List.take, List.drop]
  rcases Be (((x28.2 == x63.2) && (x97.2 == x131.2))) with hc160 | hc160
  ·rw [if_pos hc160] at hs161
   refine Qh hc160 ?_
   obtain ⟨v162, v164, v166, h168, h163, h165, h167⟩ := El_know_Index h52
   refine Qv (fun w' hw' => Y_loadA (At.kp h168 hw' h52.2.1) isAgg26 sizeOf26 rfl) (Qh hc160 (Qv (fun w' hw' => Y_mkIS underlying26 rfl) (Qh hc160 ?_)))
   obtain ⟨v169, v171, v173, h175, h170, h172, h174⟩ := El_know_Index h87
   refine Qv (fun w' hw' => Y_loadA (At.kp h175 hw' h87.2.1) isAgg26 sizeOf26 rfl) (Qh hc160 (Qv (fun w' hw' => Y_mkIS underlying26 rfl) (Qh hc160 ?_)))
   obtain ⟨x176, hx176, hs161⟩ := Bs hs161
   refine VQ_call (.bool x176) call7 rfl rfl rfl rfl (fun w' hw' => (portref2_Alike_c (Dw := False) w' (fun b hb => hA b (Nat.le_trans hw'.size hb)) x28.1 v162 (Sl.kp h163 hw') v164 (Sl.kp h165 hw') v166 (Sl.kp h167 hw') x63.1 v169 (Sl.kp h170 hw') v171 (Sl.kp h172 hw') v173 (Sl.kp h174 hw') hx176).mono (fun _ _ h => ⟨h.1, Kp.trans (Dw := False) hw' h.2⟩)) ?_
   refine VQ_y (fun _ _ => Y_pick_te rfl hc160 rfl) rfl rfl rfl ?_
   obtain rfl := Oi hs161
   exact VQ_end fun a ha => ⟨(), ha.sb, trivial⟩
  rw [if_neg (nt hc160)] at hs161
  refine Qg hc160 (Qg hc160 (Qg hc160 (Qg hc160 (Qg hc160 ?_))))
  refine VQ_y (fun _ _ => Y_pick_fe rfl hc160 rfl) rfl rfl rfl ?_
  obtain rfl := Oi hs161
  exact VQ_end fun a ha => ⟨(), ha.sb, trivial⟩
 simp only [List.take, List.drop]
 rintro _ _
 refine Qm ?_
 obtain ⟨s178, hs178, hm⟩ := Bs hm
 refine VQ_cut 6 (fun _ : Unit => [(3, Pt b7), (60, .bool s178)]) (fun _ => True) ?_ ?_
 ·simp only [List.take, List.drop]
  rcases Be (s161) with hc177 | hc177
  ·rw [if_pos hc177] at hs178
   refine Qh hc177 ?_
   obtain ⟨v179, v181, v183, h185, h180, h182, h184⟩ := El_know_Index h121
   refine Qv (fun w' hw' => Y_loadA (At.kp h185 hw' h121.2.1) isAgg26 sizeOf26 rfl) (Qh hc177 (Qv (fun w' hw' => Y_mkIS underlying26 rfl) (Qh hc177 ?_)))
   obtain ⟨v186, v188, v190, h192, h187, h189, h191⟩ := El_know_Index h155
   refine Qv (fun w' hw' => Y_loadA (At.kp h192 hw' h155.2.1) isAgg26 sizeOf26 rfl) (Qh hc177 (Qv (fun w' hw' => Y_mkIS underlying26 rfl) (Qh hc177 ?_)))
   obtain ⟨x193, hx193, hs178⟩ := Bs hs178
   refine VQ_call (.bool x193) call7 rfl rfl rfl rfl (fun w' hw' => (portref2_Alike_c (Dw := False) w' (fun b hb => hA b (Nat.le_trans hw'.size hb)) x97.1 v179 (Sl.kp h180 hw') v181 (Sl.kp h182 hw') v183 (Sl.kp h184 hw') x131.1 v186 (Sl.kp h187 hw') v188 (Sl.kp h189 hw') v190 (Sl.kp h191 hw') hx193).mono (fun _ _ h => ⟨h.1, Kp.trans (Dw := False) hw' h.2⟩)) ?_
   refine VQ_y (fun _ _ => Y_pick_te rfl hc177 rfl) rfl rfl rfl ?_
   obtain rfl := Oi hs178
   exact VQ_end fun a ha => ⟨(), ha.sb, trivial⟩
  rw [if_neg (nt hc177)] at hs178
  refine Qg hc177 (Qg hc177 (Qg hc177 (Qg hc177 (Qg hc177 ?_))))
  refine VQ_y (fun _ _ => Y_pick_fe rfl hc177 rfl) rfl rfl rfl ?_
  obtain rfl := Oi hs178
  exact VQ_end fun a ha => ⟨(), ha.sb, trivial⟩
 simp only [List.take, List.drop]
 rintro _ _
 refine Qm ?_
 obtain ⟨s195, hs195, hm⟩ := Bs hm
 refine VQ_cut 6 (fun _ : Unit => [(67, .bool s195)]) (fun _ => True) ?_ ?_
 ·simp only [List.take, List.drop]
  rcases Be (s178) with hc194 | hc194
  ·rw [if_pos hc194] at hs195
   refine Qh hc194 ?_
   obtain ⟨v196, v198, v200, h202, h197, h199, h201⟩ := El_know_Index h11
   refine Qv (fun w' hw' => Y_loadA (At.kp h202 hw' h11.2.1) isAgg26 sizeOf26 rfl) (Qh hc194 ?_)
   obtain ⟨x203, hx203, hs195⟩ := Bs hs195
   refine VQ_call (Ii x203) call12 rfl rfl rfl rfl (fun w' hw' => (know_CheckIndex_c (Dw := False) w' (fun b hb => hA b (Nat.le_trans hw'.size hb)) x v196 (Sl.kp h197 hw') v198 (Sl.kp h199 hw') v200 (Sl.kp h201 hw') hx203).mono (fun _ _ h => ⟨h.1, Kp.trans (Dw := False) hw' h.2⟩)) ?_
   refine Qh hc194 ?_
   obtain ⟨v204, v206, v208, h210, h205, h207, h209⟩ := El_know_Index h11
   refine Qv (fun w' hw' => Y_loadA (At.kp h210 hw' h11.2.1) isAgg26 sizeOf26 rfl) (Qh hc194 ?_)
   obtain ⟨x211, hx211, hs195⟩ := Bs hs195
   refine VQ_call (Ii x211) call13 rfl rfl rfl rfl (fun w' hw' => (portref2_IndexFault_c (Dw := False) w' (fun b hb => hA b (Nat.le_trans hw'.size hb)) x v204 (Sl.kp h205 hw') v206 (Sl.kp h207 hw') v208 (Sl.kp h209 hw') hx211).mono (fun _ _ h => ⟨h.1, Kp.trans (Dw := False) hw' h.2⟩)) ?_
   refine Qh hc194 (Qv (fun w' hw' => Y_eql rfl rfl) ?_)
   refine VQ_y (fun _ _ => Y_pick_te rfl hc194 rfl) rfl rfl rfl ?_
   obtain rfl := Oi hs195
   exact VQ_end fun a ha => ⟨(), ha.sb, trivial⟩
  rw [if_neg (nt hc194)] at hs195
  refine Qg hc194 (Qg hc194 (Qg hc194 (Qg hc194 (Qg hc194 ?_))))
  refine VQ_y (fun _ _ => Y_pick_fe rfl hc194 rfl) rfl rfl rfl ?_
  obtain rfl := Oi hs195
  exact VQ_end fun a ha => ⟨(), ha.sb, trivial⟩
 simp only [List.take, List.drop]
 rintro _ _
 refine Qa ?_
 refine VQ_to (fun _ _ => rfl) (fun w212 hk213 => ?_)
 have ht214 := Kp.tr hk213 hA hB; replace hK := Tt hK ht214
 obtain rfl := Oi hm
 refine Rt (Res.one results4 rfl) ?_
 exact ⟨rfl, hK.kp⟩
end Go.Proofs.YtldkdabcdbgpbaaGreatDoor.W
