import Derived.Test.YtjdjmddclfhpeaaGreatDoorTopFoundW3
namespace Go.Proofs.YtjdjmddclfhpeaaGreatDoor.W
open Go Go.RowKit Go.Pu Go.Gw Go.Proofs Go.Proofs.YtjdjmddclfhpeaaGreatDoor.M
set_option linter.unusedVariables false
set_option linter.unusedSimpArgs false
variable {Dw : Prop}
set_option maxHeartbeats 4000000
set_option maxRecDepth 4000
open Tryz
theorem slices_Grow_Lknow_Hit_know_Hit_c (w : World) {A : Nat → Prop} (hA : ∀ b, w.heap.size ≤ b → A b) (n : Int) {r : List know_Hit} (hm : slices_Grow_Lknow_Hit_know_Hit n = some r) : Ret prog 42 #[.slice none 0 0, Ii n] w fun v w' => ∃ s0, v = s0 ∧ Ownd (α := know_Hit) 55 w w' s0 r ∧ Kp Dw w w' := by
 unfold slices_Grow_Lknow_Hit_know_Hit at hm
 split at hm
 case isFalse => cases hm
 rename_i hc
 obtain rfl := Oi hm
 obtain ⟨k, rfl⟩ : ∃ k : Nat, n = (k : Int) := ⟨n.toNat, by omega⟩
 obtain ⟨_, hk0⟩ := hc
 have hk : k ≤ 8796093022208 := by omega
 have hmax : k ≤ maxLen := Nat.le_trans hk (by decide)
 have hbytes : k * 16 ≤ 140737488355328 := Nat.le_trans (Nat.mul_le_mul_right _ hk) (by decide)
 have e0 : w64 (((0 : Nat) : Int) - ((0 : Nat) : Int)) = 0 := rfl
 have e1 : w64 ((k : Int) - 0) = (k : Int) := by rw [Int.sub_zero, w64_id (by omega) (by omega)]
 refine enter func42 rfl ntmps42 rfl ?_
 refine Sr (As (To ?_))
 refine C_seq (Sr (Mm (Vy (Y_lss rfl rfl) (To ?_))))
 refine Cc (fun hc => ?_) fun _ => ?_
 ·have : decide ((k : Int) < 0) = true := hc
  rw [decide_eq_true_eq] at this
  omega
 refine Sk ?_
 refine C_seq (Sr (Mm (Mm (Vy (Y_cap (a := none) (len := 0) (cap := 0) rfl underlying39 rfl) (Mm (Vy (Y_lenS (a := none) (len := 0) (cap := 0) rfl underlying39 rfl) (Vy (Y_subI rfl rfl) ?_)))))))
 rw [e0]
 refine Vy (Y_subI rfl rfl) ?_
 rw [e1]
 refine As (To ?_)
 refine Sr (Mm (Vy (Y_gtr rfl rfl) (To ?_)))
 refine Cc (fun hc => ?_) fun hc => ?_
 ·have hk1 : 0 < k := by
   have : decide ((0 : Int) < (k : Int)) = true := hc
   rw [decide_eq_true_eq] at this
   omega
  refine C_region (Mm (Mm (Vy (Y_cap (a := none) (len := 0) (cap := 0) rfl underlying39 rfl) (Vy (Y_slNil (sz := 2) (k := .i64) underlying39 sizeOf55 rfl rfl) (Mm ?_)))))
  refine V_appendZN (Dw := Dw) (B := w.heap.size) (L := []) (k := k) (size := 2) (bytes := 16) (ti := t55) (A := A) Hp.nil underlying39 underlying3 Tryz_info55 rfl rfl rfl rfl (by decide) hk1 hmax hbytes (Nat.le_refl _) hA rfl rfl rfl ?_
  intro g2 cap2 row w1 A1 hH1 ht1 hc1 hc2 hrow
  refine Mm (Vy (Y_lenS (a := none) (len := 0) (cap := 0) rfl underlying39 rfl) ?_)
  refine Vy (Y_slHi (sz := 2) (g := g2) (len := k) (cap := cap2) (hi := 0) (k := .i64) (by omega) underlying39 sizeOf55 rfl rfl) (As (To ?_))
  have hH2 := Hp.closeS (α := know_Hit) (e := 55) (l := ([] : List know_Hit)) (cap := cap2) hH1 (i := 0) rfl ht1.new (by simp) hc2 hrow (by rw [List.length_nil, Nat.zero_mul]; exact rfl)
  refine Sr (Mm (As (To ?_)))
  refine Rt (Res.one results42 rfl) ?_
  exact ⟨_, rfl, (Hp.ownd hH2 (i := 0) rfl), ht1.kp⟩
 refine Sk ?_
 refine Sr (Mm (As (To ?_)))
 refine Rt (Res.one results42 rfl) ?_
 exact ⟨_, rfl, ⟨[], .inl ⟨rfl, rfl, rfl⟩, fun b hb => by cases hb⟩, Kp.refl (Dw := Dw) _⟩
theorem slices_Concat_Lknow_Hit_know_Hit_c (w : World) {A : Nat → Prop} (hA : ∀ b, w.heap.size ≤ b → A b) (slices : (List (List know_Hit))) (v_slices : Value) (h_slices : Sl A w v_slices slices) {r : (List know_Hit)} (hm : slices_Concat_Lknow_Hit_know_Hit slices = some r) : Ret prog 13 #[v_slices] w fun v w' => ∃ s0, v = s0 ∧ Ownd 55 w w' s0 r ∧ Kp Dw w w' := by
 unfold slices_Concat_Lknow_Hit_know_Hit at hm
 refine enter func13 rfl ntmps13 rfl ?_
 have hA0 := hA
 obtain ⟨hB, hK, hH⟩ := St (Dw := Dw) hA
 refine Sr (As (To ?_))
 refine Sr (As (To ?_))
 refine C_seq (Sr (Mm (Vy (Y_lenSl h_slices rfl underlying101 rfl) (Mm (To ?_)))))
 have hn23 := Sl.le h_slices
 obtain ⟨o3, ho3, hm⟩ := Bs hm
 refine C_cutG (ι := (Int × (Nat → Prop))) (fun ⟨s4, A10⟩ => [(0, v_slices), (3, Ii s4)]) (fun ⟨s4, A10⟩ => fun w' => o3 = .fin s4 ∧ Hp w.heap.size A10 w' ([]) ∧ Tr Dw w.heap.size A w A10 w') ?_ ?_
 ·refine C_block ?_
  refine C_range ho3 (fun k6 s12 a w' => ∃ i : (Nat → Prop), Has ⟨36, [], none⟩ a ([(0, v_slices), (3, Ii s12), (9, v_slices), (10, Ii (slices.length : Int)), (11, Ii (k6 : Int))]) ∧ Hp w.heap.size i w' ([]) ∧ Tr Dw w.heap.size A w i w') (fun a ha => ⟨A, ha.sb, ⟨hH, Tr.refl (Dw := Dw) hA⟩⟩) ?_
  rintro K k6 s12 a w13 ⟨A14, ha35, hH15, hr5⟩ hle19 K22 h21
  refine C_of ?_ ha35
  replace h_slices := Sl.tr h_slices hr5; replace hA := hr5.new; replace hH := hH15
  refine Sr (Vy (Y_lss rfl rfl) (To ?_))
  refine C_seq ?_
  refine Cc (fun hc24 => ?_) fun hc24 => ?_
  ·have hlt20 := lt_of_dec hc24
   obtain ⟨x16, h17, h18⟩ := K22 hlt20
   refine Sk ?_
   refine C_seq (C_block (Sr ?_))
   obtain ⟨x25, hx25, h17⟩ := Bs h17
   refine V_indexAddr h_slices hx25 underlying101 sizeOf39 rfl rfl rfl ?_
   intro b26 o27 h28
   obtain ⟨v29, h30, h31⟩ := El.list h28
   refine Ld h30 isAgg39 (As (To ?_))
   refine Sr (Mm (Mm (Vy (Y_lenSl h31 rfl underlying39 rfl) (Vy (Y_addI rfl rfl) (As (To ?_))))))
   refine Sr (Mm (Vy (Y_lss rfl rfl) (To ?_)))
   refine Cc (fun hc32 => ?_) fun hc32 => ?_
   ·rw [if_pos hc32] at h17
    cases h17
   rw [if_neg (nt hc32)] at h17
   refine Sk ?_
   refine C_region (Vy (Y_addI rfl rfl) (Mm ?_))
   obtain rfl := Oi h17
   refine V_end (fun a ha33 => ?_)
   exact ⟨w64 (s12 + (x25.length : Int)), hlt20, h18, ⟨A14, ha33.sub ⟨rfl, rfl, rfl, rfl, Ws hlt20 hn23, trivial⟩, ⟨hH, hr5⟩⟩⟩
  refine C_exit (fun a ha34 => ?_)
  exact ⟨(s12, A14), ha34.sb, ⟨(h21 (eq_of_dec hle19 hc24)).symm, hH, hr5⟩⟩
 rintro ⟨s4, A10⟩ w7 ⟨rfl, hH11, hk8⟩ a ha9
 rw [Lp.andThen_fin] at hm
 replace h_slices := Sl.tr h_slices hk8; replace hK := Tr.trans hK hk8; replace hB := Nat.le_trans hB hk8.ex.size; replace hA := hk8.new; replace hH := hH11
 refine C_at (n := ⟨36, [], none⟩) (fun _ _ => rfl) ?_ ha9
 refine Sr (Mm ?_)
 obtain ⟨x36, hx36, hm⟩ := Bs hm
 refine Vc call42 (slices_Grow_Lknow_Hit_know_Hit_c (Dw := Dw) w7 hA  s4 hx36) ?_
 rintro v37 w39 ⟨_, rfl, h38, hk40⟩
 obtain ⟨A41, ht42, hH43⟩ := Hp.addOwnd (Dw := Dw) hH hB hA hk40 h38
 replace h_slices := Sl.tr h_slices ht42; replace hK := Tt hK ht42; replace hB := Bx hB ht42; replace hA := ht42.new
 replace hH : Hp _ _ _ (o_55 v37 x36 :: []) := hH43
 refine As (To ?_)
 refine C_seq (Sr (Mm (Vy (Y_lenSl h_slices rfl underlying101 rfl) (Mm (To ?_)))))
 have hn68 := Sl.le h_slices
 obtain ⟨o44, ho44, hm⟩ := Bs hm
 refine C_cutG (ι := ((List know_Hit) × Value × (Nat → Prop))) (fun ⟨s45, v51, A53⟩ => [(6, v51)]) (fun ⟨s45, v51, A53⟩ => fun w' => o44 = .fin s45 ∧ Hp w.heap.size A53 w' (o_55 v51 s45 :: []) ∧ Tr Dw w.heap.size A41 w39 A53 w') ?_ ?_
 ·refine C_block ?_
  refine C_range ho44 (fun k47 s55 a w' => ∃ i : (Value × (Nat → Prop)), Has ⟨36, [], none⟩ a ([(6, i.1), (25, v_slices), (26, Ii (slices.length : Int)), (27, Ii (k47 : Int))]) ∧ Hp w.heap.size i.2 w' (o_55 i.1 s55 :: []) ∧ Tr Dw w.heap.size A41 w39 i.2 w') (fun a ha => ⟨(v37, A41), ha.sb, ⟨hH, Tr.refl (Dw := Dw) hA⟩⟩) ?_
  rintro K k47 s55 a w56 ⟨⟨v57, A59⟩, ha85, hH60, hr46⟩ hle64 K67 h66
  refine C_of ?_ ha85
  replace h_slices := Sl.tr h_slices hr46; replace hB := Bx hB hr46; replace hA := hr46.new
  replace hH : Hp _ _ _ (o_55 v57 s55 :: []) := hH60
  refine Sr (Vy (Y_lss rfl rfl) (To ?_))
  refine C_seq ?_
  refine Cc (fun hc69 => ?_) fun hc69 => ?_
  ·have hlt65 := lt_of_dec hc69
   obtain ⟨x61, h62, h63⟩ := K67 hlt65
   refine Sk ?_
   refine C_seq (C_block (Sr ?_))
   obtain ⟨x70, hx70, h62⟩ := Bs h62
   refine V_indexAddr h_slices hx70 underlying101 sizeOf39 rfl rfl rfl ?_
   intro b71 o72 h73
   obtain ⟨v74, h75, h76⟩ := El.list h73
   refine Ld h75 isAgg39 (As (To ?_))
   refine C_region (Mm (Mm ?_))
   obtain ⟨x77, hx77, h62⟩ := Bs h62
   refine V_appendH (Dw := Dw) (e := 55) (v := v57) (l := s55) (ti := t55) (bytes := 16) (lim := 8796093022208) hH (i := 0) rfl h76 hx77 underlying39 Tryz_info55 rfl rfl rfl rfl (by decide) (by decide) (by decide) hB hA rfl rfl rfl ?_
   intro v78 w79 A80 hH81 ht82
   replace hr46 := Tt hr46 ht82
   replace hH : Hp _ _ _ (o_55 v78 x77 :: []) := hH81
   refine As (To ?_)
   refine C_region (Vy (Y_addI rfl rfl) (Mm ?_))
   obtain rfl := Oi h62
   refine V_end (fun a ha83 => ?_)
   exact ⟨x77, hlt65, h63, ⟨(v78, A80), ha83.sub ⟨rfl, rfl, rfl, Ws hlt65 hn68, trivial⟩, ⟨hH, hr46⟩⟩⟩
  refine C_exit (fun a ha84 => ?_)
  exact ⟨(s55, v57, A59), ha84.sb, ⟨(h66 (eq_of_dec hle64 hc69)).symm, hH, hr46⟩⟩
 rintro ⟨s45, v51, A53⟩ w48 ⟨rfl, hH54, hk49⟩ a ha50
 rw [Lp.andThen_fin] at hm
 replace hK := Tr.trans hK hk49; replace hA := hk49.new
 replace hH : Hp _ _ _ (o_55 v51 s45 :: []) := hH54
 refine C_at (n := ⟨36, [], none⟩) (fun _ _ => rfl) ?_ ha50
 refine Sr (Mm (As (To ?_)))
 obtain rfl := Oi hm
 refine Rt (Res.one results13 rfl) ?_
 exact ⟨v51, rfl, (Hp.ownd hH (i := 0) rfl), hK.kp⟩
theorem slices_IndexFunc_Lknow_Entry_know_Entry_c (w : World) {A : Nat → Prop} (hA : ∀ b, w.heap.size ≤ b → A b) (s : (List know_Entry)) (v_s : Value) (h_s : Sl A w v_s s) (f : know_Entry → Option Bool) (f_f : FuncId) (f_a f_c : Array Value) (f_call : ∀ (args : Array Value) (w : World), (callFunc f_f args).run prog w = .ok (.enter f_f args) w) (f_spec : ∀ (w1 : World) (A1 : Nat → Prop), Tr Dw w.heap.size A w A1 w1 → (∀ b, w1.heap.size ≤ b → A1 b) → ∀ (y0 : know_Entry) (r : Bool), f y0 = some r → Ret prog f_f (f_a ++ #[.agg #[Ii y0.id_, .string y0.title, .string y0.body]] ++ f_c) w1 fun v w' => v = .bool r ∧ Kp Dw w1 w') {r : Int} (hm : slices_IndexFunc_Lknow_Entry_know_Entry s f = some r) : Ret prog 43 #[v_s, .func (.func f_f) f_a f_c] w fun v w' => v = Ii r ∧ Kp Dw w w' := by
 unfold slices_IndexFunc_Lknow_Entry_know_Entry at hm
 refine enter func43 rfl ntmps43 rfl ?_
 have hA0 := hA
 obtain ⟨hB, hK, hH⟩ := St (Dw := Dw) hA
 refine Sr (As (To ?_))
 refine C_seq (Sr (Mm (Vy (Y_lenSl h_s rfl underlying42 rfl) (Mm (To ?_)))))
 have hn23 := Sl.le h_s
 obtain ⟨o3, ho3, hm⟩ := Bs hm
 refine C_cutG (ι := (Unit × (Nat → Prop))) (fun ⟨s4, A10⟩ => []) (fun ⟨s4, A10⟩ => fun w' => o3 = .fin s4 ∧ Hp w.heap.size A10 w' ([]) ∧ Tr Dw w.heap.size A w A10 w') ?_ ?_
 ·refine C_block ?_
  refine C_range ho3 (fun k6 _ a w' => ∃ i : (Nat → Prop), Has ⟨19, [], none⟩ a ([(0, v_s), (1, .func (.func f_f) f_a f_c), (7, Ii (s.length : Int)), (8, Ii (k6 : Int))]) ∧ Hp w.heap.size i w' ([]) ∧ Tr Dw w.heap.size A w i w') (fun a ha => ⟨A, ha.sb, ⟨hH, Tr.refl (Dw := Dw) hA⟩⟩) ?_
  rintro K k6 _ a w13 ⟨A14, ha37, hH15, hr5⟩ hle19 K22 h21
  refine C_of ?_ ha37
  replace h_s := Sl.tr h_s hr5; replace hK := Tt hK hr5; replace hB := Bx hB hr5; replace hA := hr5.new; replace hH := hH15
  refine Sr (Vy (Y_lss rfl rfl) (To ?_))
  refine C_seq ?_
  refine Cc (fun hc24 => ?_) fun hc24 => ?_
  ·have hlt20 := lt_of_dec hc24
   obtain ⟨x16, h17, h18⟩ := K22 hlt20
   refine Sk ?_
   refine C_seq (C_block (Sr (Mm (As (To ?_)))))
   refine Sr (Mm (Mm (Mm ?_)))
   obtain ⟨x25, hx25, h17⟩ := Bs h17
   refine V_indexAddr h_s hx25 underlying42 sizeOf58 rfl rfl rfl ?_
   intro b26 o27 h28
   obtain ⟨h29, _⟩ := El_know_Entry h28
   refine Vy (Y_loadA h29 isAgg58 sizeOf58 rfl) ?_
   obtain ⟨x30, hx30, h17⟩ := Bs h17
   refine Vc f_call (f_spec w13 _ hK hA x25 _ hx30) ?_
   rintro _ w31 ⟨rfl, hk32⟩
   have ht33 := Kp.tr hk32 hA hB; replace hH := Hp.kp hH hk32; replace hK := Tt hK ht33; replace hr5 := Tt hr5 ht33
   refine To ?_
   refine Cc (fun hc34 => ?_) fun hc34 => ?_
   ·rw [if_pos hc34] at h17
    refine Sr (Mm (As (To ?_)))
    obtain rfl := Oi h17
    obtain rfl := (h18 : Lp.rt _ = _)
    rw [Lp.andThen_rt] at hm
    obtain rfl := Oi hm
    refine Rt (Res.one results43 rfl) ?_
    exact ⟨rfl, hK.kp⟩
   rw [if_neg (nt hc34)] at h17
   refine Sk ?_
   refine C_region (Vy (Y_addI rfl rfl) (Mm ?_))
   obtain rfl := Oi h17
   refine V_end (fun a ha35 => ?_)
   exact ⟨(), hlt20, h18, ⟨A14, ha35.sub ⟨rfl, rfl, rfl, Ws hlt20 hn23, trivial⟩, ⟨hH, hr5⟩⟩⟩
  refine C_exit (fun a ha36 => ?_)
  exact ⟨((), A14), ha36.sub trivial, ⟨(h21 (eq_of_dec hle19 hc24)).symm, hH, hr5⟩⟩
 rintro ⟨s4, A10⟩ w7 ⟨rfl, hH11, hk8⟩ a ha9
 rw [Lp.andThen_fin] at hm
 replace hK := Tr.trans hK hk8; replace hA := hk8.new; replace hH := hH11
 refine C_at (n := ⟨19, [], none⟩) (fun _ _ => rfl) ?_ ha9
 refine Sr (As (To ?_))
 obtain rfl := Oi hm
 refine Rt (Res.one results43 rfl) ?_
 exact ⟨rfl, hK.kp⟩
theorem slices_ContainsFunc_Lknow_Entry_know_Entry_c (w : World) {A : Nat → Prop} (hA : ∀ b, w.heap.size ≤ b → A b) (s : (List know_Entry)) (v_s : Value) (h_s : Sl A w v_s s) (f : know_Entry → Option Bool) (f_f : FuncId) (f_a f_c : Array Value) (f_call : ∀ (args : Array Value) (w : World), (callFunc f_f args).run prog w = .ok (.enter f_f args) w) (f_spec : ∀ (w1 : World) (A1 : Nat → Prop), Tr Dw w.heap.size A w A1 w1 → (∀ b, w1.heap.size ≤ b → A1 b) → ∀ (y0 : know_Entry) (r : Bool), f y0 = some r → Ret prog f_f (f_a ++ #[.agg #[Ii y0.id_, .string y0.title, .string y0.body]] ++ f_c) w1 fun v w' => v = .bool r ∧ Kp Dw w1 w') {r : Bool} (hm : slices_ContainsFunc_Lknow_Entry_know_Entry s f = some r) : Ret prog 14 #[v_s, .func (.func f_f) f_a f_c] w fun v w' => v = .bool r ∧ Kp Dw w w' := by
 unfold slices_ContainsFunc_Lknow_Entry_know_Entry at hm
 refine enter func14 rfl ntmps14 rfl ?_
 have hA0 := hA
 obtain ⟨hB, hK, hH⟩ := St (Dw := Dw) hA
 refine Sr (As (To ?_))
 refine Sr (Mm (Mm ?_))
 obtain ⟨x3, hx3, hm⟩ := Bs hm
 refine Vc call43 (slices_IndexFunc_Lknow_Entry_know_Entry_c (Dw := Dw) w hA s v_s h_s f f_f f_a f_c f_call (fun w1 A1 ht => f_spec w1 A1 (Tr.trans hK (Tr.lower (Dw := Dw) ht hB))) hx3) ?_
 rintro _ w4 ⟨rfl, hk5⟩
 have ht6 := Kp.tr hk5 hA hB; replace hK := Tt hK ht6
 refine Vy (Y_geq rfl rfl) (As (To ?_))
 obtain rfl := Oi hm
 refine Rt (Res.one results14 rfl) ?_
 exact ⟨rfl, hK.kp⟩
theorem slices_Equal_Lknow_Hit_know_Hit_c (w : World) {A : Nat → Prop} (hA : ∀ b, w.heap.size ≤ b → A b) (s1 : (List know_Hit)) (v_s1 : Value) (h_s1 : Sl A w v_s1 s1) (s2 : (List know_Hit)) (v_s2 : Value) (h_s2 : Sl A w v_s2 s2) {r : Bool} (hm : slices_Equal_Lknow_Hit_know_Hit s1 s2 = some r) : Ret prog 16 #[v_s1, v_s2] w fun v w' => v = .bool r ∧ Kp Dw w w' := by
 unfold slices_Equal_Lknow_Hit_know_Hit at hm
 refine enter func16 rfl ntmps16 rfl ?_
 have hA0 := hA
 obtain ⟨hB, hK, hH⟩ := St (Dw := Dw) hA
 refine Sr (As (To ?_))
 refine C_seq (Sr (Mm (Vy (Y_lenSl h_s1 rfl underlying39 rfl) (Mm (Vy (Y_lenSl h_s2 rfl underlying39 rfl) (Vy (Y_neq rfl rfl) (To ?_)))))))
 refine Cc (fun hc5 => ?_) fun hc5 => ?_
 ·rw [if_pos hc5] at hm
  refine Sr (As (To ?_))
  obtain rfl := Oi hm
  refine Rt (Res.one results16 rfl) ?_
  exact ⟨rfl, hK.kp⟩
 rw [if_neg (nt hc5)] at hm
 refine Sk ?_
 refine C_seq (Sr (Mm (Vy (Y_lenSl h_s1 rfl underlying39 rfl) (Mm (To ?_)))))
 have hn27 := Sl.le h_s1
 obtain ⟨o6, ho6, hm⟩ := Bs hm
 refine C_cutG (ι := (Unit × (Nat → Prop))) (fun ⟨s7, A13⟩ => []) (fun ⟨s7, A13⟩ => fun w' => o6 = .fin s7 ∧ Hp w.heap.size A13 w' ([]) ∧ Tr Dw w.heap.size A w A13 w') ?_ ?_
 ·refine C_block ?_
  refine C_range ho6 (fun k9 _ a w' => ∃ i : (Nat → Prop), Has ⟨26, [], none⟩ a ([(0, v_s1), (1, v_s2), (12, Ii (s1.length : Int)), (13, Ii (k9 : Int))]) ∧ Hp w.heap.size i w' ([]) ∧ Tr Dw w.heap.size A w i w') (fun a ha => ⟨A, ha.sb, ⟨hH, Tr.refl (Dw := Dw) hA⟩⟩) ?_
  rintro K k9 _ a w17 ⟨A18, ha45, hH19, hr8⟩ hle23 K26 h25
  refine C_of ?_ ha45
  replace h_s1 := Sl.tr h_s1 hr8; replace h_s2 := Sl.tr h_s2 hr8; replace hK := Tt hK hr8; replace hB := Bx hB hr8; replace hA := hr8.new; replace hH := hH19
  refine Sr (Vy (Y_lss rfl rfl) (To ?_))
  refine C_seq ?_
  refine Cc (fun hc28 => ?_) fun hc28 => ?_
  ·have hlt24 := lt_of_dec hc28
   obtain ⟨x20, h21, h22⟩ := K26 hlt24
   refine Sk ?_
   refine C_seq (C_block (Sr (Mm (As (To ?_)))))
   refine C_seq ?_
   refine C_region_q (Dw := Dw) Tryz_mixed (by kernel_rfl) ?_
   refine Qm (Qm ?_)
   obtain ⟨x29, hx29, h21⟩ := Bs h21
   refine VQ_indexAddr h_s1 hx29 underlying39 sizeOf55 rfl rfl rfl ?_
   intro b30 o31 h32
   obtain ⟨h33, _⟩ := El_know_Hit h32
   refine Qv (fun w' hw' => Y_loadA (At.kp h33 hw' h32.2.1) isAgg55 sizeOf55 rfl) (Qm (Qm ?_))
   obtain ⟨x34, hx34, h21⟩ := Bs h21
   refine VQ_indexAddr h_s2 hx34 underlying39 sizeOf55 rfl rfl rfl ?_
   intro b35 o36 h37
   obtain ⟨h38, _⟩ := El_know_Hit h37
   refine Qv (fun w' hw' => Y_loadA (At.kp h38 hw' h37.2.1) isAgg55 sizeOf55 rfl) (Qv (fun w' hw' => Y_neqA (fun w => Tryz_eqt55_10000 x29.id_ x29.score x34.id_ x34.score w) Tryz_eqg55 rfl rfl) ?_)
   refine VQ_to (fun _ _ => rfl) (fun w39 hk40 => ?_)
   have ht41 := Kp.tr hk40 hA hB; replace hH := Hp.kp hH hk40; replace hK := Tt hK ht41; replace hr8 := Tt hr8 ht41
   refine Cc (fun hc42 => ?_) fun hc42 => ?_
   ·rw [if_pos hc42] at h21
    refine Sr (As (To ?_))
    obtain rfl := Oi h21
    obtain rfl := (h22 : Lp.rt _ = _)
    rw [Lp.andThen_rt] at hm
    obtain rfl := Oi hm
    refine Rt (Res.one results16 rfl) ?_
    exact ⟨rfl, hK.kp⟩
   rw [if_neg (nt hc42)] at h21
   refine Sk ?_
   refine C_region (Vy (Y_addI rfl rfl) (Mm ?_))
   obtain rfl := Oi h21
   refine V_end (fun a ha43 => ?_)
   exact ⟨(), hlt24, h22, ⟨A18, ha43.sub ⟨rfl, rfl, rfl, Ws hlt24 hn27, trivial⟩, ⟨hH, hr8⟩⟩⟩
  refine C_exit (fun a ha44 => ?_)
  exact ⟨((), A18), ha44.sub trivial, ⟨(h25 (eq_of_dec hle23 hc28)).symm, hH, hr8⟩⟩
 rintro ⟨s7, A13⟩ w10 ⟨rfl, hH14, hk11⟩ a ha12
 rw [Lp.andThen_fin] at hm
 replace hK := Tr.trans hK hk11; replace hA := hk11.new; replace hH := hH14
 refine C_at (n := ⟨26, [], none⟩) (fun _ _ => rfl) ?_ ha12
 refine Sr (As (To ?_))
 obtain rfl := Oi hm
 refine Rt (Res.one results16 rfl) ?_
 exact ⟨rfl, hK.kp⟩
theorem porttop_TopFound_1_c (w : World) {A : Nat → Prop} (hA : ∀ b, w.heap.size ≤ b → A b) (v : know_Entry) (p1 : know_Hit) (b_p1 : Nat) (h_p1 : El A w b_p1 0 p1) {r : Bool} (hm : porttop_TopFound_1 v p1 = some r) : Ret prog 15 #[.agg #[Ii v.id_, .string v.title, .string v.body], Pt b_p1] w fun v w' => v = .bool r ∧ Kp Dw w w' := by
 unfold porttop_TopFound_1 at hm
 refine enter func15 rfl ntmps15 rfl ?_
 have hA0 := hA
 obtain ⟨hB, hK, hH⟩ := St (Dw := Dw) hA
 refine Sr ?_
 refine V_box rfl rfl ?_
 intro b1 w2 h3
 have hk5 := h3.kp (Dw := Dw)
 have h4 : El (α := know_Entry) A w2 b1 0 v := h3.el hA ⟨[Ii v.id_], _, rfl, rfl, ⟨[.string v.title], _, rfl, rfl, rfl⟩⟩
 have ht6 := Kp.tr hk5 hA hB; replace h_p1 := El.tr h_p1 ht6; replace hK := Tt hK ht6
 refine As (To ?_)
 refine Sr ?_
 have h7 := El_know_Entry_0 h4
 refine Fa underlying58 rfl sizeOf3 (Li h7 isAgg3 ?_)
 have h8 := El_know_Hit_0 h_p1
 refine Fa underlying55 rfl sizeOf3 (Li h8 isAgg3 (Vy (Y_eql rfl rfl) (As (To ?_))))
 obtain rfl := Oi hm
 refine Rt (Res.one results15 rfl) ?_
 exact ⟨rfl, hK.kp⟩
theorem porttop_TopFound_c (w : World) {A : Nat → Prop} (hA : ∀ b, w.heap.size ≤ b → A b) (hT : Mx prog 0 A w) (l : (List know_Article)) (v_l : Value) (h_l : Sl A w v_l l) (groups : (List Int)) (v_groups : Value) (h_groups : Sl A w v_groups groups) (m : Int) (other : ByteArray) (query : ByteArray) (text : ByteArray) {r : Bool} (hm : porttop_TopFound l groups m other query text = some r) : Ret prog 3 #[v_l, v_groups, Ii m, .string other, .string query, .string text] w fun v w' => v = .bool r ∧ Kp False w w' := by
 unfold porttop_TopFound at hm
 refine enter func3 rfl ntmps3 rfl ?_
 have hA0 := hA
 obtain ⟨hB, hK, hH⟩ := St (Dw := False) hA
 refine Sr (As (To ?_))
 refine C_seq (Sr ?_)
 obtain ⟨x5, hx5, hm⟩ := Bs hm
 refine Vc call4 (porttop_awakeKnow_c (Dw := False) w hA hx5) ?_
 rintro _ w6 ⟨rfl, hk7⟩
 have ht8 := Kp.tr hk7 hA hB; replace hH := Hp.kp hH hk7; replace h_l := Sl.tr h_l ht8; replace h_groups := Sl.tr h_groups ht8; replace hK := Tt hK ht8; replace hB := Bx hB ht8; replace hA := ht8.new
 refine Vy (Y_not rfl) (To ?_)
 refine Cc (fun hc9 => ?_) fun hc9 => ?_
 ·rw [if_pos hc9] at hm
  refine Sr (As (To ?_))
  obtain rfl := Oi hm
  refine Rt (Res.one results3 rfl) ?_
  exact ⟨rfl, hK.kp⟩
 rw [if_neg (nt hc9)] at hm
 refine Sk ?_
 refine Sr (Mm ?_)
 obtain ⟨x10, hx10, hm⟩ := Bs hm
 refine Vc call5 (know_ReadQuery_c (Dw := False) w6 hA query hx10) ?_
 rintro _ w13 ⟨v11, rfl, h12, hk14⟩
 have ht15 := Kp.tr hk14 hA hB; replace hH := Hp.kp hH hk14; replace h_l := Sl.tr h_l ht15; replace h_groups := Sl.tr h_groups ht15; replace hK := Tt hK ht15; replace hB := Bx hB ht15; replace hA := ht15.new
 refine Mm (Vy (Y_extract rfl rfl) (Vy (Y_extract rfl rfl) (Vy (Y_extract rfl rfl) ?_)))
 refine V_alloc zeroValue27 rfl ?_
 intro b16 w17 h18
 have h23 : (v11).oneCell' = true := by obtain ⟨_, _, e, _⟩ := Sl.form h12; rw [e]; rfl
 refine Sn h18 sizeOf27 ?_
 intro w19 h20
 have hk25 := h20.kp (Dw := False)
 have h24 : El (α := know_Query) A w19 b16 0 x10.1 := h20.el hA ⟨_, rfl, h12⟩
 have ht26 := Kp.tr hk25 hA hB; replace hH := Hp.kp hH hk25; replace h_l := Sl.tr h_l ht26; replace h_groups := Sl.tr h_groups ht26; replace hK := Tt hK ht26; replace hB := Bx hB ht26; replace hA := ht26.new
 refine As (As (To ?_))
 refine C_seq (Sr (Mm ?_))
 obtain ⟨x27, hx27, hm⟩ := Bs hm
 refine Vc call6 (know_CheckArticles_c (Dw := False) w19 hA (Mx.tr (Dw := False) hT hK) l v_l h_l hx27) ?_
 rintro _ w28 ⟨rfl, hk29⟩
 have ht30 := Kp.tr hk29 hA hB; replace hH := Hp.kp hH hk29; replace h_l := Sl.tr h_l ht30; replace h_groups := Sl.tr h_groups ht30; replace h24 := El.tr h24 ht30; replace hK := Tt hK ht30; replace hB := Bx hB ht30; replace hA := ht30.new
 refine Vy (Y_neq rfl rfl) (Mm ?_)
 refine V_cut 3 (fun _ : Unit => [(0, v_l), (1, v_groups), (2, Ii m), (3, .string other), (5, .string text), (13, Pt b16), (42, .bool ((x27 != 0) || (x10.2.2 != 0)))]) (fun _ w' => w28 = w') ?_ ?_
 ·simp only [List.take, List.drop]
  rcases Be (x27 != 0) with hc31 | hc31
  ·refine Gm hc31 (Gm hc31 (Vy (Y_pick_te rfl hc31 rfl) ?_))
   exact V_end fun a ha => ⟨(), ha.sub ⟨rfl, rfl, rfl, rfl, rfl, rfl, (by rw [hc31]; rfl), trivial⟩, rfl⟩
  refine Gf hc31 (Mm (Gf hc31 (Vy (Y_neq rfl rfl) (Vy (Y_pick_fe rfl hc31 rfl) ?_))))
  exact V_end fun a ha => ⟨(), ha.sub ⟨rfl, rfl, rfl, rfl, rfl, rfl, (by rw [hc31]; rfl), trivial⟩, rfl⟩
 simp only [List.take, List.drop]
 rintro _ _ rfl
 refine Mm ?_
 refine V_cut 3 (fun _ : Unit => [(0, v_l), (1, v_groups), (2, Ii m), (3, .string other), (5, .string text), (13, Pt b16), (46, .bool (((x27 != 0) || (x10.2.2 != 0)) || (decide (m < 0))))]) (fun _ w' => w28 = w') ?_ ?_
 ·simp only [List.take, List.drop]
  rcases Be (((x27 != 0) || (x10.2.2 != 0))) with hc33 | hc33
  ·refine Gm hc33 (Gm hc33 (Vy (Y_pick_te rfl hc33 rfl) ?_))
   exact V_end fun a ha => ⟨(), ha.sub ⟨rfl, rfl, rfl, rfl, rfl, rfl, (by rw [hc33]; rfl), trivial⟩, rfl⟩
  refine Gf hc33 (Mm (Gf hc33 (Vy (Y_lss rfl rfl) (Vy (Y_pick_fe rfl hc33 rfl) ?_))))
  exact V_end fun a ha => ⟨(), ha.sub ⟨rfl, rfl, rfl, rfl, rfl, rfl, (by rw [hc33]; rfl), trivial⟩, rfl⟩
 simp only [List.take, List.drop]
 rintro _ _ rfl
 refine Mm ?_
 refine V_cut 3 (fun _ : Unit => [(0, v_l), (1, v_groups), (2, Ii m), (3, .string other), (5, .string text), (13, Pt b16), (50, .bool ((((x27 != 0) || (x10.2.2 != 0)) || (decide (m < 0))) || (decide ((3000000 : Int) < m))))]) (fun _ w' => w28 = w') ?_ ?_
 ·simp only [List.take, List.drop]
  rcases Be ((((x27 != 0) || (x10.2.2 != 0)) || (decide (m < 0)))) with hc35 | hc35
  ·refine Gm hc35 (Gm hc35 (Vy (Y_pick_te rfl hc35 rfl) ?_))
   exact V_end fun a ha => ⟨(), ha.sub ⟨rfl, rfl, rfl, rfl, rfl, rfl, (by rw [hc35]; rfl), trivial⟩, rfl⟩
  refine Gf hc35 (Mm (Gf hc35 (Vy (Y_gtr rfl rfl) (Vy (Y_pick_fe rfl hc35 rfl) ?_))))
  exact V_end fun a ha => ⟨(), ha.sub ⟨rfl, rfl, rfl, rfl, rfl, rfl, (by rw [hc35]; rfl), trivial⟩, rfl⟩
 simp only [List.take, List.drop]
 rintro _ _ rfl
 refine Mm ?_
 refine V_cut 4 (fun _ : Unit => [(0, v_l), (1, v_groups), (2, Ii m), (3, .string other), (5, .string text), (13, Pt b16), (55, .bool (((((x27 != 0) || (x10.2.2 != 0)) || (decide (m < 0))) || (decide ((3000000 : Int) < m))) || (decide ((41 : Int) < (groups.length : Int)))))]) (fun _ w' => w28 = w') ?_ ?_
 ·simp only [List.take, List.drop]
  rcases Be (((((x27 != 0) || (x10.2.2 != 0)) || (decide (m < 0))) || (decide ((3000000 : Int) < m)))) with hc37 | hc37
  ·refine Gm hc37 (Gm hc37 (Gm hc37 (Vy (Y_pick_te rfl hc37 rfl) ?_)))
   exact V_end fun a ha => ⟨(), ha.sub ⟨rfl, rfl, rfl, rfl, rfl, rfl, (by rw [hc37]; rfl), trivial⟩, rfl⟩
  refine Gf hc37 (Mm (Gf hc37 (Vy (Y_lenSl h_groups rfl underlying23 rfl) (Gf hc37 (Vy (Y_gtr rfl rfl) (Vy (Y_pick_fe rfl hc37 rfl) ?_))))))
  exact V_end fun a ha => ⟨(), ha.sub ⟨rfl, rfl, rfl, rfl, rfl, rfl, (by rw [hc37]; rfl), trivial⟩, rfl⟩
 simp only [List.take, List.drop]
 rintro _ _ rfl
 refine Mm ?_
 refine V_cut 4 (fun _ : Unit => [(0, v_l), (1, v_groups), (2, Ii m), (3, .string other), (5, .string text), (13, Pt b16), (60, .bool ((((((x27 != 0) || (x10.2.2 != 0)) || (decide (m < 0))) || (decide ((3000000 : Int) < m))) || (decide ((41 : Int) < (groups.length : Int)))) || (decide ((20000 : Int) < (text.size : Int)))))]) (fun _ w' => w28 = w') ?_ ?_
 ·simp only [List.take, List.drop]
  rcases Be ((((((x27 != 0) || (x10.2.2 != 0)) || (decide (m < 0))) || (decide ((3000000 : Int) < m))) || (decide ((41 : Int) < (groups.length : Int))))) with hc39 | hc39
  ·refine Gm hc39 (Gm hc39 (Gm hc39 (Vy (Y_pick_te rfl hc39 rfl) ?_)))
   exact V_end fun a ha => ⟨(), ha.sub ⟨rfl, rfl, rfl, rfl, rfl, rfl, (by rw [hc39]; rfl), trivial⟩, rfl⟩
  refine Gf hc39 (Mm (Gf hc39 (Vy (Y_lenStr rfl underlying9 rfl) (Gf hc39 (Vy (Y_gtr rfl rfl) (Vy (Y_pick_fe rfl hc39 rfl) ?_))))))
  exact V_end fun a ha => ⟨(), ha.sub ⟨rfl, rfl, rfl, rfl, rfl, rfl, (by rw [hc39]; rfl), trivial⟩, rfl⟩
 simp only [List.take, List.drop]
 rintro _ _ rfl
 refine To ?_
 refine Cc (fun hc41 => ?_) fun hc41 => ?_
 ·rw [if_pos hc41] at hm
  refine Sr (As (To ?_))
  obtain rfl := Oi hm
  refine Rt (Res.one results3 rfl) ?_
  exact ⟨rfl, hK.kp⟩
 rw [if_neg (nt hc41)] at hm
 refine Sk ?_
 refine Sr (Mm ?_)
 obtain ⟨x42, hx42, hm⟩ := Bs hm
 refine Vc call7 (slices_Clone_Lknow_Article_know_Article_c (Dw := False) w28 hB hA l v_l h_l hH hx42) ?_
 rintro v43 w45 ⟨_, A46, rfl, hH47, ht48⟩
 replace h_l := Sl.tr h_l ht48; replace h_groups := Sl.tr h_groups ht48; replace h24 := El.tr h24 ht48; replace hK := Tt hK ht48; replace hB := Bx hB ht48; replace hA := ht48.new
 replace hH : Hp _ _ _ (o_35 v43 x42 :: []) := hH47
 refine As (To ?_)
 refine C_seq (Sr (Mm (Vy (Y_lenSl (Hp.any (α := know_Article) (e := 35) (v := v43) (l := x42) hH (i := 0) rfl) rfl underlying22 rfl) (Mm (To ?_)))))
 have hn73 := Hp.le (α := know_Article) (e := 35) (v := v43) (l := x42) hH (i := 0) rfl
 obtain ⟨o49, ho49, hm⟩ := Bs hm
 refine C_cutG (ι := ((List know_Article) × Value × (Nat → Prop))) (fun ⟨s50, v56, A58⟩ => [(0, v_l), (1, v_groups), (2, Ii m), (5, .string text), (13, Pt b16), (16, v56)]) (fun ⟨s50, v56, A58⟩ => fun w' => o49 = .fin s50 ∧ Hp w.heap.size A58 w' (o_35 v56 s50 :: []) ∧ Tr False w.heap.size A46 w45 A58 w') ?_ ?_
 ·refine C_block ?_
  refine C_range ho49 (fun k52 s60 a w' => ∃ i : (Value × (Nat → Prop)), Has ⟨163, [], none⟩ a ([(0, v_l), (1, v_groups), (2, Ii m), (3, .string other), (5, .string text), (13, Pt b16), (16, i.1), (63, i.1), (64, Ii (x42.length : Int)), (65, Ii (k52 : Int))]) ∧ Hp w.heap.size i.2 w' (o_35 i.1 s60 :: []) ∧ Tr False w.heap.size A46 w45 i.2 w') (fun a ha => ⟨(v43, A46), ha.sb, ⟨hH, Tr.refl (Dw := False) hA⟩⟩) ?_
  rintro K k52 s60 a w61 ⟨⟨v62, A64⟩, ha139, hH65, hr51⟩ hle69 K72 h71
  refine C_of ?_ ha139
  replace h_groups := Sl.tr h_groups hr51; replace hB := Bx hB hr51; replace hA := hr51.new
  replace hH : Hp _ _ _ (o_35 v62 s60 :: []) := hH65
  refine Sr (Vy (Y_lss rfl rfl) (To ?_))
  refine C_seq ?_
  refine Cc (fun hc74 => ?_) fun hc74 => ?_
  ·have hlt70 := lt_of_dec hc74
   obtain ⟨x66, h67, h68⟩ := K72 hlt70
   refine Sk ?_
   refine C_seq ?_
   obtain ⟨s76, ho75, h67⟩ := Bs h67
   refine C_cutG (ι := (Value × (Nat → Prop))) (fun ⟨v78, A83⟩ => [(0, v_l), (1, v_groups), (2, Ii m), (3, .string other), (5, .string text), (13, Pt b16), (16, v78), (63, v78), (64, Ii (x42.length : Int)), (65, Ii (k52 : Int))]) (fun ⟨v78, A83⟩ => fun w' => Hp w.heap.size A83 w' (o_35 v78 s76 :: []) ∧ Tr False w.heap.size A64 w61 A83 w') ?_ ?_
   ·have hr77 : Tr False w.heap.size A64 w61 A64 w61 := Tr.refl (Dw := False) hA
    refine C_block (Sr (Mm ?_))
    obtain ⟨x85, hx85, ho75⟩ := Bs ho75
    refine V_indexAddrH (α := know_Article) (e := 35) (v := v62) (l := s60) hH (i := 0) rfl hx85 underlying22 sizeOf35 rfl rfl rfl ?_
    intro b86 o87 h88 hl89
    obtain ⟨v90, h92, h91⟩ := ElR_know_Article (Hp.elemRep (e := 35) (v := v62) (l := s60) hH (i := 0) rfl hl89 hx85)
    refine Vy (Y_loadA h92 isAgg35 sizeOf35 rfl) ?_
    refine V_alloc zeroValue35 rfl ?_
    intro b93 w94 h95
    refine As ?_
    have h100 : (v90).oneCell' = true := by obtain ⟨_, _, e, _⟩ := Sl.form h91; rw [e]; rfl
    refine Sn h95 sizeOf35 ?_
    intro w96 h97
    have hk102 := h97.kp (Dw := False)
    have h101 : El (α := know_Article) A64 w96 b93 0 x85 := h97.el hA ⟨[Ii x85.id_], _, rfl, rfl, ⟨[Ii x85.group], _, rfl, rfl, ⟨_, rfl, h91⟩⟩⟩
    have ht103 := Kp.tr hk102 hA hB; replace hH := Hp.kp hH hk102; replace h_groups := Sl.tr h_groups ht103; replace hr77 := Tt hr77 ht103; replace hB := Bx hB ht103; replace hA := ht103.new
    refine To ?_
    refine Sr (Mm ?_)
    have h104 := El_know_Article_1 h101
    refine Fa underlying35 rfl sizeOf3 (Li h104 isAgg3 ?_)
    obtain ⟨x105, hx105, ho75⟩ := Bs ho75
    refine Vc call8 (slices_Contains_Lint_int_c w96 groups v_groups h_groups x85.group hx105) ?_
    rintro _ _ ⟨rfl, rfl⟩
    refine Vy (Y_not rfl) (To ?_)
    obtain ⟨s107, ho106, ho75⟩ := Bs ho75
    refine C_cutG (ι := (Value × (Nat → Prop))) (fun ⟨v109, A114⟩ => [(0, v_l), (1, v_groups), (2, Ii m), (3, .string other), (5, .string text), (13, Pt b16), (16, v109), (63, v109), (64, Ii (x42.length : Int)), (65, Ii (k52 : Int))]) (fun ⟨v109, A114⟩ => fun w' => Hp w.heap.size A114 w' (o_35 v109 s107 :: []) ∧ Tr False w.heap.size A64 w96 A114 w') ?_ ?_
    ·have hr108 : Tr False w.heap.size A64 w96 A64 w96 := Tr.refl (Dw := False) hA
     refine Cc (fun hc116 => ?_) fun hc116 => ?_
     ·rw [if_pos hc116] at ho106
      refine C_region (Mm (Mm (Mm (Mm ?_))))
      refine Vy (Y_build underlying38 zeroValue38 (Tryz_places38 _ underlying38) rfl (by with_unfolding_all rfl)) ?_
      refine V_buildSlice (Dw := False) (cells := #[Ii m, .string (⟨#[116]⟩ : ByteArray), .string other]) (l := ([(⟨m, (⟨#[116]⟩ : ByteArray), other⟩ : know_Version)] : List know_Version)) (len := 1) underlying33 sizeOf38 zeroValue38 rfl (by kernel_rfl) (show (1 * 3 : Nat) ≠ 0 by decide) (show (1 * 3 : Nat) ≤ 2 ^ 24 by decide) hA ⟨[Ii m, .string (⟨#[116]⟩ : ByteArray), .string other], _, rfl, ⟨[Ii m], _, rfl, rfl, ⟨[.string (⟨#[116]⟩ : ByteArray)], _, rfl, rfl, rfl⟩⟩, rfl⟩ rfl rfl ?_
      intro v117 w118 hk120 h119
      have ht121 := Kp.tr hk120 hA hB; replace hH := Hp.kp hH hk120; replace hr108 := Tt hr108 ht121; replace hB := Bx hB ht121; replace hA := ht121.new
      refine V_indexAddrH (α := know_Article) (e := 35) (v := v62) (l := s60) hH (i := 0) rfl hx85 underlying22 sizeOf35 rfl rfl rfl ?_
      intro b122 o123 h124 hl125
      have h126 := El_know_Article_2 h124
      refine Fa underlying35 rfl sizeOf33 ?_
      obtain ⟨x127, hx127, ho106⟩ := Bs ho106
      have h133 : (v117).oneCell' = true := by obtain ⟨_, _, e, _⟩ := Sl.form h119; rw [e]; rfl
      refine V_storeFH (Dw := False) (α := know_Article) (e := 35) (v := v62) (l := s60) (foff := 2) hH (i := 0) rfl hl125 hx85 hx127 (fun _ h => by obtain ⟨_, _, rfl, rfl, ⟨_, _, rfl, rfl, ⟨v1, rfl, h1⟩⟩⟩ := h; rw [Value.cells_one h133]; exact ⟨[_], _, rfl, rfl, ⟨[_], _, rfl, rfl, ⟨_, rfl, h119⟩⟩⟩) sizeOf33 (by rw [← Array.length_toList, Value.cells_one h133]; rfl) (by intro u hu; rw [Value.cells_one h133] at hu; simp at hu; subst hu; exact h133) (by decide) hB hA (congrArg (fun z => some (Value.pointer (some ⟨_, z, none⟩))) (by simp [Nat.add_assoc])) rfl ?_
      intro w128 hH129 ht130
      replace hr108 := Tt hr108 ht130
      replace hH : Hp _ _ _ (o_35 v62 x127 :: []) := hH129
      obtain rfl := Oi ho106
      refine V_end (fun a ha134 => ?_)
      exact ⟨(v62, A64), ha134.sb, ⟨hH, hr108⟩⟩
     rw [if_neg (nt hc116)] at ho106
     obtain rfl := Oi ho106
     refine C_skip (fun a ha135 => ?_)
     exact ⟨(v62, A64), ha135.sb, ⟨hH, hr108⟩⟩
    rintro ⟨v109, A114⟩ w111 ⟨hH115, hk112⟩ a ha113
    replace hr77 := Tr.trans hr77 hk112; replace hA := hk112.new
    replace hH : Hp _ _ _ (o_35 v109 s107 :: []) := hH115
    obtain rfl := Oi ho75
    exact ⟨(v109, A114), ha113.sb, ⟨hH, hr77⟩⟩
   rintro ⟨v78, A83⟩ w80 ⟨hH84, hk81⟩ a ha82
   replace hr51 := Tr.trans hr51 hk81; replace hA := hk81.new
   replace hH : Hp _ _ _ (o_35 v78 s76 :: []) := hH84
   refine C_at (n := ⟨163, [], none⟩) (fun _ _ => rfl) ?_ ha82
   refine C_region (Vy (Y_addI rfl rfl) (Mm ?_))
   obtain rfl := Oi h67
   refine V_end (fun a ha137 => ?_)
   exact ⟨s76, hlt70, h68, ⟨(v78, A83), ha137.sub ⟨rfl, rfl, rfl, rfl, rfl, rfl, rfl, rfl, rfl, Ws hlt70 hn73, trivial⟩, ⟨hH, hr51⟩⟩⟩
  refine C_exit (fun a ha138 => ?_)
  exact ⟨(s60, v62, A64), ha138.sb, ⟨(h71 (eq_of_dec hle69 hc74)).symm, hH, hr51⟩⟩
 rintro ⟨s50, v56, A58⟩ w53 ⟨rfl, hH59, hk54⟩ a ha55
 rw [Lp.andThen_fin] at hm
 replace h_l := Sl.tr h_l hk54; replace h_groups := Sl.tr h_groups hk54; replace h24 := El.tr h24 hk54; replace hK := Tr.trans hK hk54; replace hB := Nat.le_trans hB hk54.ex.size; replace hA := hk54.new
 replace hH : Hp _ _ _ (o_35 v56 s50 :: []) := hH59
 refine C_at (n := ⟨163, [], none⟩) (fun _ _ => rfl) ?_ ha55
 refine C_seq (Sr (Mm ?_))
 obtain ⟨x140, hx140, hm⟩ := Bs hm
 refine Vc call6 (know_CheckArticles_c (Dw := False) w53 (A := fun _ => True) (fun _ _ => trivial) (Mx.top (Mx.tr (Dw := False) hT hK)) s50 v56 (Hp.any (α := know_Article) (e := 35) (v := v56) (l := s50) hH (i := 0) rfl) hx140) ?_
 rintro _ w141 ⟨rfl, hk142⟩
 have ht143 := Kp.tr hk142 hA hB; replace hH := Hp.kp hH hk142; replace h_l := Sl.tr h_l ht143; replace h_groups := Sl.tr h_groups ht143; replace h24 := El.tr h24 ht143; replace hK := Tt hK ht143; replace hB := Bx hB ht143; replace hA := ht143.new
 refine Vy (Y_neq rfl rfl) (To ?_)
 refine Cc (fun hc144 => ?_) fun hc144 => ?_
 ·rw [if_pos hc144] at hm
  refine Sr (As (To ?_))
  obtain rfl := Oi hm
  refine Rt (Res.one results3 rfl) ?_
  exact ⟨rfl, hK.kp⟩
 rw [if_neg (nt hc144)] at hm
 refine Sk ?_
 refine Sr ?_
 refine V_allocH (Dw := False) (B := w.heap.size) hH zeroValue40 hB hA rfl ?_
 intro b145 w146 A147 hH148 ht149
 replace hH148 := Hp.arrOf (α := (List know_Hit)) (cs := [.slice none 0 0, .slice none 0 0]) (l := ([[], []] : List (List know_Hit))) hH148 ⟨[.slice none 0 0], [.slice none 0 0], rfl, ⟨_, rfl, Sl.nil⟩, ⟨[.slice none 0 0], [], rfl, ⟨_, rfl, Sl.nil⟩, rfl⟩⟩ (by decide)
 replace h_l := Sl.tr h_l ht149; replace h_groups := Sl.tr h_groups ht149; replace h24 := El.tr h24 ht149; replace hK := Tt hK ht149; replace hB := Bx hB ht149; replace hA := ht149.new
 replace hH : Hp _ _ _ (obS (α := (List know_Hit)) 40 (.slice (some ⟨b145, 0, none⟩) 2 2) ([[], []] : List (List know_Hit)) :: o_35 v56 s50 :: []) := hH148
 refine To ?_
 refine Sr ?_
 refine V_allocH (Dw := False) (B := w.heap.size) hH zeroValue40 hB hA rfl ?_
 intro b150 w151 A152 hH153 ht154
 replace hH153 := Hp.arrOf (α := (List know_Hit)) (cs := [.slice none 0 0, .slice none 0 0]) (l := ([[], []] : List (List know_Hit))) hH153 ⟨[.slice none 0 0], [.slice none 0 0], rfl, ⟨_, rfl, Sl.nil⟩, ⟨[.slice none 0 0], [], rfl, ⟨_, rfl, Sl.nil⟩, rfl⟩⟩ (by decide)
 replace h_l := Sl.tr h_l ht154; replace h_groups := Sl.tr h_groups ht154; replace h24 := El.tr h24 ht154; replace hK := Tt hK ht154; replace hB := Bx hB ht154; replace hA := ht154.new
 replace hH : Hp _ _ _ (obS (α := (List know_Hit)) 40 (.slice (some ⟨b150, 0, none⟩) 2 2) ([[], []] : List (List know_Hit)) :: obS (α := (List know_Hit)) 40 (.slice (some ⟨b145, 0, none⟩) 2 2) ([[], []] : List (List know_Hit)) :: o_35 v56 s50 :: []) := hH153
 refine To ?_
 refine C_seq (Sr (Mm (Mm ?_)))
 obtain ⟨A155, ht156, h157, hH158⟩ := Hp.freeze (Dw := False) (α := know_Article) (v := v56) (l := s50) hH (i := 2) rfl hA
 replace h_l := Sl.tr h_l ht156; replace h_groups := Sl.tr h_groups ht156; replace h24 := El.tr h24 ht156; replace hK := Tt hK ht156; replace hB := Bx hB ht156; replace hA := ht156.new
 replace hH : Hp _ _ _ (obS (α := (List know_Hit)) 40 (.slice (some ⟨b150, 0, none⟩) 2 2) ([[], []] : List (List know_Hit)) :: obS (α := (List know_Hit)) 40 (.slice (some ⟨b145, 0, none⟩) 2 2) ([[], []] : List (List know_Hit)) :: []) := hH158
 refine V_buildSlice (Dw := False) (cells := #[v_l, v56]) (l := ([l, s50] : List (List know_Article))) (len := 2) underlying41 sizeOf22 zeroValue22 rfl (by obtain ⟨a164, c165, e166, _⟩ := Sl.form h_l; subst e166; obtain ⟨a167, c168, e169, _⟩ := Sl.form h157; subst e169; kernel_rfl) (show (2 * 1 : Nat) ≠ 0 by decide) (show (2 * 1 : Nat) ≤ 2 ^ 24 by decide) hA ⟨[v_l], _, rfl, ⟨_, rfl, h_l⟩, ⟨[v56], _, rfl, ⟨_, rfl, h157⟩, rfl⟩⟩ rfl rfl ?_
 intro v160 w161 hk163 h162
 have ht170 := Kp.tr hk163 hA hB; replace hH := Hp.kp hH hk163; replace h_groups := Sl.tr h_groups ht170; replace h24 := El.tr h24 ht170; replace hK := Tt hK ht170; replace hB := Bx hB ht170; replace hA := ht170.new
 refine Vy (Y_lenSl h162 rfl underlying41 rfl) (Mm (To ?_))
 have hn191 := Sl.le h162
 obtain ⟨o171, ho171, hm⟩ := Bs hm
 refine C_cutG (ι := (((List (List know_Hit)) × (List (List know_Hit))) × (Nat → Prop))) (fun ⟨s172, A178⟩ => [(19, Pt b145), (20, Pt b150)]) (fun ⟨s172, A178⟩ => fun w' => o171 = .fin s172 ∧ Hp w.heap.size A178 w' (obS (α := (List know_Hit)) 40 (.slice (some ⟨b150, 0, none⟩) 2 2) s172.2 :: obS (α := (List know_Hit)) 40 (.slice (some ⟨b145, 0, none⟩) 2 2) s172.1 :: []) ∧ Tr False w.heap.size A155 w161 A178 w') ?_ ?_
 ·refine C_block ?_
  refine C_range ho171 (fun k174 s180 a w' => ∃ i : (Nat → Prop), Has ⟨163, [], none⟩ a ([(1, v_groups), (2, Ii m), (5, .string text), (13, Pt b16), (19, Pt b145), (20, Pt b150), (89, v160), (90, Ii (([l, s50] : List (List know_Article)).length : Int)), (91, Ii (k174 : Int))]) ∧ Hp w.heap.size i w' (obS (α := (List know_Hit)) 40 (.slice (some ⟨b150, 0, none⟩) 2 2) s180.2 :: obS (α := (List know_Hit)) 40 (.slice (some ⟨b145, 0, none⟩) 2 2) s180.1 :: []) ∧ Tr False w.heap.size A155 w161 i w') (fun a ha => ⟨A155, ha.sb, ⟨hH, Tr.refl (Dw := False) hA⟩⟩) ?_
  rintro K k174 s180 a w181 ⟨A182, ha407, hH183, hr173⟩ hle187 K190 h189
  refine C_of ?_ ha407
  replace h_groups := Sl.tr h_groups hr173; replace h24 := El.tr h24 hr173; replace h162 := Sl.tr h162 hr173; replace hK := Tt hK hr173; replace hB := Bx hB hr173; replace hA := hr173.new
  replace hH : Hp _ _ _ (obS (α := (List know_Hit)) 40 (.slice (some ⟨b150, 0, none⟩) 2 2) s180.2 :: obS (α := (List know_Hit)) 40 (.slice (some ⟨b145, 0, none⟩) 2 2) s180.1 :: []) := hH183
  refine Sr (Vy (Y_lss rfl rfl) (To ?_))
  refine C_seq ?_
  refine Cc (fun hc192 => ?_) fun hc192 => ?_
  ·have hlt188 := lt_of_dec hc192
   obtain ⟨x184, h185, h186⟩ := K190 hlt188
   refine Sk ?_
   refine C_seq ?_
   obtain ⟨o193, ho193, h185⟩ := Bs h185
   refine C_cutG (ι := (((List (List know_Hit)) × (List (List know_Hit))) × (Nat → Prop))) (fun ⟨s194, A199⟩ => [(1, v_groups), (2, Ii m), (5, .string text), (13, Pt b16), (19, Pt b145), (20, Pt b150), (89, v160), (90, Ii (([l, s50] : List (List know_Article)).length : Int)), (91, Ii (k174 : Int))]) (fun ⟨s194, A199⟩ => fun w' => o193 = .fin s194 ∧ Hp w.heap.size A199 w' (obS (α := (List know_Hit)) 40 (.slice (some ⟨b150, 0, none⟩) 2 2) s194.2 :: obS (α := (List know_Hit)) 40 (.slice (some ⟨b145, 0, none⟩) 2 2) s194.1 :: []) ∧ Tr False w.heap.size A182 w181 A199 w') ?_ ?_
   ·have hr195 : Tr False w.heap.size A182 w181 A182 w181 := Tr.refl (Dw := False) hA
    refine C_block (Sr (Mm ?_))
    obtain ⟨x201, hx201, ho193⟩ := Bs ho193
    refine V_indexAddr h162 hx201 underlying41 sizeOf22 rfl rfl rfl ?_
    intro b202 o203 h204
    obtain ⟨v205, h206, h207⟩ := El.list h204
    refine Ld h206 isAgg22 (As (As (To ?_)))
    refine Sr (Mm (Mm (Mm ?_)))
    obtain ⟨x208, hx208, ho193⟩ := Bs ho193
    refine Vc call9 (know_Current_c (Dw := False) w181 hA (Mx.tr (Dw := False) hT hK) x201 v205 h207 groups v_groups h_groups m hx208) ?_
    rintro _ w211 ⟨v209, rfl, h210, hk212⟩
    obtain ⟨A213, ht214, hH215⟩ := Hp.addOwnd (Dw := False) hH hB hA hk212 h210
    replace h24 := El.tr h24 ht214; replace hK := Tt hK ht214; replace hr195 := Tt hr195 ht214; replace hB := Bx hB ht214; replace hA := ht214.new
    replace hH : Hp _ _ _ (o_58 v209 x208.1 :: obS (α := (List know_Hit)) 40 (.slice (some ⟨b150, 0, none⟩) 2 2) s180.2 :: obS (α := (List know_Hit)) 40 (.slice (some ⟨b145, 0, none⟩) 2 2) s180.1 :: []) := hH215
    refine Mm (Vy (Y_extract rfl rfl) (Vy (Y_extract rfl rfl) (As (As (To ?_)))))
    refine C_seq (Sr (Mm (Vy (Y_neq rfl rfl) (To ?_))))
    refine Cc (fun hc216 => ?_) fun hc216 => ?_
    ·rw [if_pos hc216] at ho193
     refine Sr (As (To ?_))
     obtain rfl := Oi ho193
     rw [Lp.andThen_rt] at h185
     obtain rfl := Oi h185
     obtain rfl := (h186 : Lp.rt _ = _)
     rw [Lp.andThen_rt] at hm
     obtain rfl := Oi hm
     refine Rt (Res.one results3 rfl) ?_
     exact ⟨rfl, hK.kp⟩
    rw [if_neg (nt hc216)] at ho193
    refine Sk ?_
    refine Sr (Mm ?_)
    obtain ⟨A217, ht218, h219, hH220⟩ := Hp.freeze (Dw := False) (α := know_Entry) (v := v209) (l := x208.1) hH (i := 0) rfl hA
    replace h24 := El.tr h24 ht218; replace hK := Tt hK ht218; replace hr195 := Tt hr195 ht218; replace hB := Bx hB ht218; replace hA := ht218.new
    replace hH : Hp _ _ _ (obS (α := (List know_Hit)) 40 (.slice (some ⟨b150, 0, none⟩) 2 2) s180.2 :: obS (α := (List know_Hit)) 40 (.slice (some ⟨b145, 0, none⟩) 2 2) s180.1 :: []) := hH220
    obtain ⟨x222, hx222, ho193⟩ := Bs ho193
    refine Vc call10 (know_NewIndex_c (Dw := False) w211 hA x208.1 v209 h219 hx222) ?_
    rintro _ w229 ⟨v223, v225, v227, rfl, h224, h226, h228, hk230⟩
    have ht231 := Kp.tr hk230 hA hB; replace hH := Hp.kp hH hk230; replace h24 := El.tr h24 ht231; replace h219 := Sl.tr h219 ht231; replace hK := Tt hK ht231; replace hr195 := Tt hr195 ht231; replace hB := Bx hB ht231; replace hA := ht231.new
    refine Mm (Vy (Y_extract rfl rfl) (Vy (Y_extract rfl rfl) ?_))
    refine V_alloc zeroValue47 rfl ?_
    intro b232 w233 h234
    have h239 : (v223).oneCell' = true := by obtain ⟨_, _, e, _⟩ := Sl.form h224; rw [e]; rfl
    have h242 : (v225).oneCell' = true := by obtain ⟨_, _, e, _⟩ := Sl.form h226; rw [e]; rfl
    have h245 : (v227).oneCell' = true := by obtain ⟨_, _, e, _⟩ := Sl.form h228; rw [e]; rfl
    refine Sn h234 sizeOf47 ?_
    intro w235 h236
    have hk247 := h236.kp (Dw := False)
    have h246 : El (α := know_Index) A217 w235 b232 0 x222.1 := h236.el hA ⟨[v223], _, rfl, ⟨_, rfl, h224⟩, ⟨[v225], _, rfl, ⟨_, rfl, h226⟩, ⟨_, rfl, h228⟩⟩⟩
    have ht248 := Kp.tr hk247 hA hB; replace hH := Hp.kp hH hk247; replace h24 := El.tr h24 ht248; replace h219 := Sl.tr h219 ht248; replace hK := Tt hK ht248; replace hr195 := Tt hr195 ht248; replace hB := Bx hB ht248; replace hA := ht248.new
    refine As (To ?_)
    refine C_seq (Sr (Mm (Vy (Y_neq rfl rfl) (To ?_))))
    refine Cc (fun hc249 => ?_) fun hc249 => ?_
    ·rw [if_pos hc249] at ho193
     refine Sr (As (To ?_))
     obtain rfl := Oi ho193
     rw [Lp.andThen_rt] at h185
     obtain rfl := Oi h185
     obtain rfl := (h186 : Lp.rt _ = _)
     rw [Lp.andThen_rt] at hm
     obtain rfl := Oi hm
     refine Rt (Res.one results3 rfl) ?_
     exact ⟨rfl, hK.kp⟩
    rw [if_neg (nt hc249)] at ho193
    refine Sk ?_
    refine Sr (Mm ?_)
    obtain ⟨v250, v252, v254, h256, h251, h253, h255⟩ := El_know_Index h246
    refine Vy (Y_loadA h256 isAgg47 sizeOf47 rfl) ?_
    obtain ⟨v257, h259, h258⟩ := El_know_Query h24
    refine Vy (Y_loadA h259 isAgg27 sizeOf27 rfl) ?_
    obtain ⟨x260, hx260, ho193⟩ := Bs ho193
    refine Vc call11 (know_Search_c w235 hA x222.1 v250 h251 v252 h253 v254 h255 x10.1 v257 h258 100 hx260) ?_
    rintro _ w263 ⟨v261, rfl, h262, hk264⟩
    obtain ⟨A265, ht266, hH267⟩ := Hp.addOwnd (Dw := False) hH hB hA hk264 h262
    replace h219 := Sl.tr h219 ht266; replace h246 := El.tr h246 ht266; replace hK := Tt hK ht266; replace hr195 := Tt hr195 ht266; replace hB := Bx hB ht266; replace hA := ht266.new
    replace hH : Hp _ _ _ (o_55 v261 x260.1 :: obS (α := (List know_Hit)) 40 (.slice (some ⟨b150, 0, none⟩) 2 2) s180.2 :: obS (α := (List know_Hit)) 40 (.slice (some ⟨b145, 0, none⟩) 2 2) s180.1 :: []) := hH267
    refine Mm (Vy (Y_extract rfl rfl) (Vy (Y_extract rfl rfl) ?_))
    obtain ⟨x268, hx268, ho193⟩ := Bs ho193
    refine V_indexAddrArr (α := (List know_Hit)) (e := 40) (b := b145) (m := 2) (l := s180.1) hH (i := 2) rfl hx268 underlying40 sizeOf39 rfl rfl rfl ?_
    intro b269 o270 h271 hl272
    obtain ⟨A273, ht274, h275, hH276⟩ := Hp.freeze (Dw := False) (α := know_Hit) (v := v261) (l := x260.1) hH (i := 0) rfl hA
    replace h219 := Sl.tr h219 ht274; replace h246 := El.tr h246 ht274; replace hK := Tt hK ht274; replace hr195 := Tt hr195 ht274; replace hB := Bx hB ht274; replace hA := ht274.new
    replace hH : Hp _ _ _ (obS (α := (List know_Hit)) 40 (.slice (some ⟨b150, 0, none⟩) 2 2) s180.2 :: obS (α := (List know_Hit)) 40 (.slice (some ⟨b145, 0, none⟩) 2 2) s180.1 :: []) := hH276
    obtain ⟨x278, hx278, ho193⟩ := Bs ho193
    refine V_storeH (Dw := False) (α := (List know_Hit)) (e := 40) (v := (.slice (some ⟨b145, 0, none⟩) 2 2)) (l := s180.1) hH (i := 1) rfl hl272 hx278 ⟨_, Sl.one h275, h275⟩ sizeOf39 rfl hB hA rfl rfl ?_
    intro w279 hH280 ht281
    replace h219 := Sl.tr h219 ht281; replace h246 := El.tr h246 ht281; replace hK := Tt hK ht281; replace hr195 := Tt hr195 ht281; replace hB := Bx hB ht281; replace hA := ht281.new
    replace hH : Hp _ _ _ (obS (α := (List know_Hit)) 40 (.slice (some ⟨b150, 0, none⟩) 2 2) s180.2 :: obS (α := (List know_Hit)) 40 (.slice (some ⟨b145, 0, none⟩) 2 2) x278 :: []) := hH280
    refine As (To ?_)
    refine C_seq (Sr (Mm (Vy (Y_neq rfl rfl) (To ?_))))
    refine Cc (fun hc282 => ?_) fun hc282 => ?_
    ·rw [if_pos hc282] at ho193
     refine Sr (As (To ?_))
     obtain rfl := Oi ho193
     rw [Lp.andThen_rt] at h185
     obtain rfl := Oi h185
     obtain rfl := (h186 : Lp.rt _ = _)
     rw [Lp.andThen_rt] at hm
     obtain rfl := Oi hm
     refine Rt (Res.one results3 rfl) ?_
     exact ⟨rfl, hK.kp⟩
    rw [if_neg (nt hc282)] at ho193
    refine Sk ?_
    refine Sr (Mm ?_)
    obtain ⟨v283, v285, v287, h289, h284, h286, h288⟩ := El_know_Index h246
    refine Vy (Y_loadA h289 isAgg47 sizeOf47 rfl) (Mm ?_)
    obtain ⟨x290, hx290, ho193⟩ := Bs ho193
    refine Vc call12 (know_Suggest_c (Dw := False) w279 hA x222.1 v283 h284 v285 h286 v287 h288 text ([] : (List Int)) (.slice none 0 0) Sl.nil 100 hx290) ?_
    rintro _ w293 ⟨v291, rfl, h292, hk294⟩
    obtain ⟨A295, ht296, hH297⟩ := Hp.addOwnd (Dw := False) hH hB hA hk294 h292
    replace h219 := Sl.tr h219 ht296; replace hK := Tt hK ht296; replace hr195 := Tt hr195 ht296; replace hB := Bx hB ht296; replace hA := ht296.new
    replace hH : Hp _ _ _ (o_55 v291 x290.1 :: obS (α := (List know_Hit)) 40 (.slice (some ⟨b150, 0, none⟩) 2 2) s180.2 :: obS (α := (List know_Hit)) 40 (.slice (some ⟨b145, 0, none⟩) 2 2) x278 :: []) := hH297
    refine Mm (Vy (Y_extract rfl rfl) (Vy (Y_extract rfl rfl) ?_))
    obtain ⟨x298, hx298, ho193⟩ := Bs ho193
    refine V_indexAddrArr (α := (List know_Hit)) (e := 40) (b := b150) (m := 2) (l := s180.2) hH (i := 1) rfl hx298 underlying40 sizeOf39 rfl rfl rfl ?_
    intro b299 o300 h301 hl302
    obtain ⟨A303, ht304, h305, hH306⟩ := Hp.freeze (Dw := False) (α := know_Hit) (v := v291) (l := x290.1) hH (i := 0) rfl hA
    replace h219 := Sl.tr h219 ht304; replace hK := Tt hK ht304; replace hr195 := Tt hr195 ht304; replace hB := Bx hB ht304; replace hA := ht304.new
    replace hH : Hp _ _ _ (obS (α := (List know_Hit)) 40 (.slice (some ⟨b150, 0, none⟩) 2 2) s180.2 :: obS (α := (List know_Hit)) 40 (.slice (some ⟨b145, 0, none⟩) 2 2) x278 :: []) := hH306
    obtain ⟨x308, hx308, ho193⟩ := Bs ho193
    refine V_storeH (Dw := False) (α := (List know_Hit)) (e := 40) (v := (.slice (some ⟨b150, 0, none⟩) 2 2)) (l := s180.2) hH (i := 0) rfl hl302 hx308 ⟨_, Sl.one h305, h305⟩ sizeOf39 rfl hB hA rfl rfl ?_
    intro w309 hH310 ht311
    replace h219 := Sl.tr h219 ht311; replace hK := Tt hK ht311; replace hr195 := Tt hr195 ht311; replace hB := Bx hB ht311; replace hA := ht311.new
    replace hH : Hp _ _ _ (obS (α := (List know_Hit)) 40 (.slice (some ⟨b150, 0, none⟩) 2 2) x308 :: obS (α := (List know_Hit)) 40 (.slice (some ⟨b145, 0, none⟩) 2 2) x278 :: []) := hH310
    refine As (To ?_)
    refine C_seq (Sr (Mm (Vy (Y_neq rfl rfl) (To ?_))))
    refine Cc (fun hc312 => ?_) fun hc312 => ?_
    ·rw [if_pos hc312] at ho193
     refine Sr (As (To ?_))
     obtain rfl := Oi ho193
     rw [Lp.andThen_rt] at h185
     obtain rfl := Oi h185
     obtain rfl := (h186 : Lp.rt _ = _)
     rw [Lp.andThen_rt] at hm
     obtain rfl := Oi hm
     refine Rt (Res.one results3 rfl) ?_
     exact ⟨rfl, hK.kp⟩
    rw [if_neg (nt hc312)] at ho193
    refine Sk ?_
    refine C_seq ?_
    refine C_region_ch (Dw := False) A303 10 [(1, 0), (0, 1), (0, 2), (1, 3), (0, 4), (0, 5), (1, 9), (2, 6), (2, 7), (1, 8)] Tryz_mixed (by kernel_rfl) (fun w313 hk314 => ?_)
    have ht315 := Kp.tr hk314 hA hB; replace hH := Hp.kp hH hk314; replace h219 := Sl.tr h219 ht315; replace hK := Tt hK ht315; replace hr195 := Tt hr195 ht315; replace hB := Bx hB ht315; replace hA := ht315.new
    refine CH_q2 rfl (Qm (VQ_CH (CH_q1 rfl ?_)))
    obtain ⟨x316, hx316, ho193⟩ := Bs ho193
    refine VQ_indexAddrArr (α := (List know_Hit)) (e := 40) (b := b145) (m := 2) (l := x278) hH (i := 1) rfl hx316 underlying40 sizeOf39 rfl rfl rfl ?_
    intro b317 o318 h319 hl320
    refine VQ_CH (CH_q1 rfl ?_)
    obtain ⟨_, ⟨v321, rfl, h323⟩, h322⟩ := Hp.elemRep (α := (List know_Hit)) (e := 40) (v := (.slice (some ⟨b145, 0, none⟩) 2 2)) (l := x278) hH (i := 1) rfl hl320 hx316
    refine Ql (fun w' hw' => ((World.cell?_of_block (hw'.block _ (World.block_lt_of_cell? _ _ (h322 0 _ rfl)))).trans (h322 0 _ rfl))) isAgg39 (VQ_CH (CH_q2 rfl (Qm (VQ_CH (CH_q1 rfl ?_)))))
    obtain ⟨x324, hx324, ho193⟩ := Bs ho193
    refine VQ_indexAddrArr (α := (List know_Hit)) (e := 40) (b := b150) (m := 2) (l := x308) hH (i := 0) rfl hx324 underlying40 sizeOf39 rfl rfl rfl ?_
    intro b325 o326 h327 hl328
    refine VQ_CH (CH_q1 rfl ?_)
    obtain ⟨_, ⟨v329, rfl, h331⟩, h330⟩ := Hp.elemRep (α := (List know_Hit)) (e := 40) (v := (.slice (some ⟨b150, 0, none⟩) 2 2)) (l := x308) hH (i := 0) rfl hl328 hx324
    refine Ql (fun w' hw' => ((World.cell?_of_block (hw'.block _ (World.block_lt_of_cell? _ _ (h330 0 _ rfl)))).trans (h330 0 _ rfl))) isAgg39 (VQ_CH (CH_q2 rfl (Qm (VQ_CH ?_))))
    refine CH_l1 (k := 0) rfl ?_
    refine V_buildSlice (Dw := False) (cells := #[v321, v329]) (l := ([x316, x324] : List (List know_Hit))) (len := 2) underlying101 sizeOf39 zeroValue39 rfl (by obtain ⟨a336, c337, e338, _⟩ := Sl.form h323; subst e338; obtain ⟨a339, c340, e341, _⟩ := Sl.form h331; subst e341; kernel_rfl) (show (2 * 1 : Nat) ≠ 0 by decide) (show (2 * 1 : Nat) ≤ 2 ^ 24 by decide) hA ⟨[v321], _, rfl, ⟨_, rfl, h323⟩, ⟨[v329], _, rfl, ⟨_, rfl, h331⟩, rfl⟩⟩ rfl rfl ?_
    intro v332 w333 hk335 h334
    have ht342 := Kp.tr hk335 hA hB; replace hH := Hp.kp hH hk335; replace h219 := Sl.tr h219 ht342; replace hK := Tt hK ht342; replace hr195 := Tt hr195 ht342; replace hB := Bx hB ht342; replace hA := ht342.new
    refine V_CH (hk335) ?_
    refine CH_l1 (k := 0) rfl ?_
    obtain ⟨x343, hx343, ho193⟩ := Bs ho193
    refine Vc call13 (slices_Concat_Lknow_Hit_know_Hit_c (Dw := False) w333 hA ([x316, x324] : List (List know_Hit)) v332 h334 hx343) ?_
    rintro v344 w346 ⟨_, rfl, h345, hk347⟩
    obtain ⟨A348, ht349, hH350⟩ := Hp.addOwnd (Dw := False) hH hB hA hk347 h345
    replace h219 := Sl.tr h219 ht349; replace hK := Tt hK ht349; replace hr195 := Tt hr195 ht349; replace hB := Bx hB ht349; replace hA := ht349.new
    replace hH : Hp _ _ _ (o_55 v344 x343 :: obS (α := (List know_Hit)) 40 (.slice (some ⟨b150, 0, none⟩) 2 2) x308 :: obS (α := (List know_Hit)) 40 (.slice (some ⟨b145, 0, none⟩) 2 2) x278 :: []) := hH350
    refine V_CH (hk347) ?_
    refine CH_q2 rfl (Qv (fun w' hw' => Y_lenSl (Hp.any (α := know_Hit) (e := 55) (v := v344) (l := x343) hH (i := 0) rfl) rfl underlying39 rfl) (VQ_CH ?_))
    refine CH_tail ?_
    show V _ _ _ _ [] _ _
    refine To ?_
    have hn371 := Hp.le (α := know_Hit) (e := 55) (v := v344) (l := x343) hH (i := 0) rfl
    obtain ⟨o351, ho351, ho193⟩ := Bs ho193
    refine C_cutG (ι := (Unit × (Nat → Prop))) (fun ⟨s352, A358⟩ => [(1, v_groups), (2, Ii m), (5, .string text), (13, Pt b16), (19, Pt b145), (20, Pt b150), (89, v160), (90, Ii (([l, s50] : List (List know_Article)).length : Int)), (91, Ii (k174 : Int))]) (fun ⟨s352, A358⟩ => fun w' => o351 = .fin s352 ∧ Hp w.heap.size A358 w' (o_55 v344 x343 :: obS (α := (List know_Hit)) 40 (.slice (some ⟨b150, 0, none⟩) 2 2) x308 :: obS (α := (List know_Hit)) 40 (.slice (some ⟨b145, 0, none⟩) 2 2) x278 :: []) ∧ Tr False w.heap.size A348 w346 A358 w') ?_ ?_
    ·refine C_block ?_
     refine C_range ho351 (fun k354 _ a w' => ∃ i : (Nat → Prop), Has ⟨163, [], none⟩ a ([(1, v_groups), (2, Ii m), (5, .string text), (13, Pt b16), (19, Pt b145), (20, Pt b150), (23, v209), (89, v160), (90, Ii (([l, s50] : List (List know_Article)).length : Int)), (91, Ii (k174 : Int)), (139, v344), (140, Ii (x343.length : Int)), (141, Ii (k354 : Int))]) ∧ Hp w.heap.size i w' (o_55 v344 x343 :: obS (α := (List know_Hit)) 40 (.slice (some ⟨b150, 0, none⟩) 2 2) x308 :: obS (α := (List know_Hit)) 40 (.slice (some ⟨b145, 0, none⟩) 2 2) x278 :: []) ∧ Tr False w.heap.size A348 w346 i w') (fun a ha => ⟨A348, ha.sb, ⟨hH, Tr.refl (Dw := False) hA⟩⟩) ?_
     rintro K k354 _ a w361 ⟨A362, ha403, hH363, hr353⟩ hle367 K370 h369
     refine C_of ?_ ha403
     replace h219 := Sl.tr h219 hr353; replace hK := Tt hK hr353; replace hB := Bx hB hr353; replace hA := hr353.new
     replace hH : Hp _ _ _ (o_55 v344 x343 :: obS (α := (List know_Hit)) 40 (.slice (some ⟨b150, 0, none⟩) 2 2) x308 :: obS (α := (List know_Hit)) 40 (.slice (some ⟨b145, 0, none⟩) 2 2) x278 :: []) := hH363
     refine Sr (Vy (Y_lss rfl rfl) (To ?_))
     refine C_seq ?_
     refine Cc (fun hc372 => ?_) fun hc372 => ?_
     ·have hlt368 := lt_of_dec hc372
      obtain ⟨x364, h365, h366⟩ := K370 hlt368
      refine Sk ?_
      refine C_seq (C_block (Sr ?_))
      obtain ⟨x373, hx373, h365⟩ := Bs h365
      refine V_indexAddrH (α := know_Hit) (e := 55) (v := v344) (l := x343) hH (i := 0) rfl hx373 underlying39 sizeOf55 rfl rfl rfl ?_
      intro b374 o375 h376 hl377
      obtain ⟨h378, _⟩ := El_know_Hit h376
      refine Vy (Y_loadA h378 isAgg55 sizeOf55 rfl) ?_
      refine V_alloc zeroValue55 rfl ?_
      intro b379 w380 h381
      refine Sn h381 sizeOf55 ?_
      intro w382 h383
      have hk385 := h383.kp (Dw := False)
      have h384 : El (α := know_Hit) A362 w382 b379 0 x373 := h383.el hA ⟨[Ii x373.id_], _, rfl, rfl, rfl⟩
      have ht386 := Kp.tr hk385 hA hB; replace hH := Hp.kp hH hk385; replace h219 := Sl.tr h219 ht386; replace hK := Tt hK ht386; replace hr353 := Tt hr353 ht386; replace hB := Bx hB ht386; replace hA := ht386.new
      refine To ?_
      refine Sr (Mm (Vy (Y_makeFunc rfl rfl) ?_))
      obtain ⟨x388, hx388, h365⟩ := Bs h365
      refine Vc call14 (slices_ContainsFunc_Lknow_Entry_know_Entry_c (Dw := False) w382 hA x208.1 v209 h219 (fun y396 => porttop_TopFound_1 y396 x373) 15 #[] #[Pt b379] call15 (fun w392 A393 ht394 h395 y389 r390 h391 => (porttop_TopFound_1_c (Dw := False) w392 h395 y389 x373 b379 (El.tr h384 ht394) h391).mono (fun _ _ h => ⟨h.1, h.2⟩)) hx388) ?_
      rintro _ w397 ⟨rfl, hk398⟩
      have ht399 := Kp.tr hk398 hA hB; replace hH := Hp.kp hH hk398; replace hK := Tt hK ht399; replace hr353 := Tt hr353 ht399
      refine Vy (Y_not rfl) (To ?_)
      refine Cc (fun hc400 => ?_) fun hc400 => ?_
      ·rw [if_pos hc400] at h365
       refine Sr (As (To ?_))
       obtain rfl := Oi h365
       obtain rfl := (h366 : Lp.rt _ = _)
       rw [Lp.andThen_rt] at ho193
       obtain rfl := Oi ho193
       rw [Lp.andThen_rt] at h185
       obtain rfl := Oi h185
       obtain rfl := (h186 : Lp.rt _ = _)
       rw [Lp.andThen_rt] at hm
       obtain rfl := Oi hm
       refine Rt (Res.one results3 rfl) ?_
       exact ⟨rfl, hK.kp⟩
      rw [if_neg (nt hc400)] at h365
      refine Sk ?_
      refine C_region (Vy (Y_addI rfl rfl) (Mm ?_))
      obtain rfl := Oi h365
      refine V_end (fun a ha401 => ?_)
      exact ⟨(), hlt368, h366, ⟨A362, ha401.sub ⟨rfl, rfl, rfl, rfl, rfl, rfl, rfl, rfl, rfl, rfl, rfl, rfl, Ws hlt368 hn371, trivial⟩, ⟨hH, hr353⟩⟩⟩
     refine C_exit (fun a ha402 => ?_)
     exact ⟨((), A362), ha402.sb, ⟨(h369 (eq_of_dec hle367 hc372)).symm, hH, hr353⟩⟩
    rintro ⟨s352, A358⟩ w355 ⟨rfl, hH359, hk356⟩ a ha357
    rw [Lp.andThen_fin] at ho193
    replace hr195 := Tr.trans hr195 hk356; replace hA := hk356.new
    replace hH : Hp _ _ _ (o_55 v344 x343 :: obS (α := (List know_Hit)) 40 (.slice (some ⟨b150, 0, none⟩) 2 2) x308 :: obS (α := (List know_Hit)) 40 (.slice (some ⟨b145, 0, none⟩) 2 2) x278 :: []) := hH359
    obtain rfl := Oi ho193
    replace hH : Hp w.heap.size A358 w355 (obS (α := (List know_Hit)) 40 (.slice (some ⟨b145, 0, none⟩) 2 2) x278 :: o_55 v344 x343 :: obS (α := (List know_Hit)) 40 (.slice (some ⟨b150, 0, none⟩) 2 2) x308 :: []) := Hp.front hH (i := 2) rfl
    replace hH : Hp w.heap.size A358 w355 (obS (α := (List know_Hit)) 40 (.slice (some ⟨b150, 0, none⟩) 2 2) x308 :: obS (α := (List know_Hit)) 40 (.slice (some ⟨b145, 0, none⟩) 2 2) x278 :: o_55 v344 x343 :: []) := Hp.front hH (i := 2) rfl
    replace hH : Hp w.heap.size A358 w355 (obS (α := (List know_Hit)) 40 (.slice (some ⟨b150, 0, none⟩) 2 2) x308 :: obS (α := (List know_Hit)) 40 (.slice (some ⟨b145, 0, none⟩) 2 2) x278 :: []) := Hp.drop hH (i := 2) rfl
    exact ⟨((x278, x308), A358), ha357.sb, ⟨rfl, hH, hr195⟩⟩
   rintro ⟨s194, A199⟩ w196 ⟨rfl, hH200, hk197⟩ a ha198
   rw [Lp.andThen_fin] at h185
   replace hr173 := Tr.trans hr173 hk197; replace hA := hk197.new
   replace hH : Hp _ _ _ (obS (α := (List know_Hit)) 40 (.slice (some ⟨b150, 0, none⟩) 2 2) s194.2 :: obS (α := (List know_Hit)) 40 (.slice (some ⟨b145, 0, none⟩) 2 2) s194.1 :: []) := hH200
   refine C_at (n := ⟨163, [], none⟩) (fun _ _ => rfl) ?_ ha198
   refine C_region (Vy (Y_addI rfl rfl) (Mm ?_))
   obtain rfl := Oi h185
   refine V_end (fun a ha405 => ?_)
   exact ⟨(s194.1, s194.2), hlt188, h186, ⟨A199, ha405.sub ⟨rfl, rfl, rfl, rfl, rfl, rfl, rfl, rfl, Ws hlt188 hn191, trivial⟩, ⟨hH, hr173⟩⟩⟩
  refine C_exit (fun a ha406 => ?_)
  exact ⟨((s180.1, s180.2), A182), ha406.sb, ⟨(h189 (eq_of_dec hle187 hc192)).symm, hH, hr173⟩⟩
 rintro ⟨s172, A178⟩ w175 ⟨rfl, hH179, hk176⟩ a ha177
 rw [Lp.andThen_fin] at hm
 replace hK := Tr.trans hK hk176; replace hB := Nat.le_trans hB hk176.ex.size; replace hA := hk176.new
 replace hH : Hp _ _ _ (obS (α := (List know_Hit)) 40 (.slice (some ⟨b150, 0, none⟩) 2 2) s172.2 :: obS (α := (List know_Hit)) 40 (.slice (some ⟨b145, 0, none⟩) 2 2) s172.1 :: []) := hH179
 refine C_at (n := ⟨163, [], none⟩) (fun _ _ => rfl) ?_ ha177
 refine C_seq ?_
 obtain ⟨s409, ho408, hm⟩ := Bs hm
 refine C_cutG (ι := (Nat → Prop)) (fun (A414 : (Nat → Prop)) => [(12, .bool s409)]) (fun (A414 : (Nat → Prop)) => fun w' => Hp w.heap.size A414 w' (obS (α := (List know_Hit)) 40 (.slice (some ⟨b150, 0, none⟩) 2 2) s172.2 :: obS (α := (List know_Hit)) 40 (.slice (some ⟨b145, 0, none⟩) 2 2) s172.1 :: []) ∧ Tr False w.heap.size A178 w175 A414 w') ?_ ?_
 ·have hr410 : Tr False w.heap.size A178 w175 A178 w175 := Tr.refl (Dw := False) hA
  refine C_region ?_
  obtain ⟨x416, hx416, ho408⟩ := Bs ho408
  refine V_indexAddrArr (α := (List know_Hit)) (e := 40) (b := b145) (m := 2) (l := s172.1) hH (i := 1) rfl hx416 underlying40 sizeOf39 rfl rfl rfl ?_
  intro b417 o418 h419 hl420
  obtain ⟨_, ⟨v421, rfl, h423⟩, h422⟩ := Hp.elemRep (α := (List know_Hit)) (e := 40) (v := (.slice (some ⟨b145, 0, none⟩) 2 2)) (l := s172.1) hH (i := 1) rfl hl420 hx416
  refine Ld (h422 0 _ rfl) isAgg39 ?_
  obtain ⟨x424, hx424, ho408⟩ := Bs ho408
  refine V_indexAddrArr (α := (List know_Hit)) (e := 40) (b := b145) (m := 2) (l := s172.1) hH (i := 1) rfl hx424 underlying40 sizeOf39 rfl rfl rfl ?_
  intro b425 o426 h427 hl428
  obtain ⟨_, ⟨v429, rfl, h431⟩, h430⟩ := Hp.elemRep (α := (List know_Hit)) (e := 40) (v := (.slice (some ⟨b145, 0, none⟩) 2 2)) (l := s172.1) hH (i := 1) rfl hl428 hx424
  refine Ld (h430 0 _ rfl) isAgg39 ?_
  obtain ⟨x432, hx432, ho408⟩ := Bs ho408
  refine Vc call16 (slices_Equal_Lknow_Hit_know_Hit_c (Dw := False) w175 hA x416 v421 h423 x424 v429 h431 hx432) ?_
  rintro _ w433 ⟨rfl, hk434⟩
  have ht435 := Kp.tr hk434 hA hB; replace hH := Hp.kp hH hk434; replace hr410 := Tt hr410 ht435; replace hB := Bx hB ht435; replace hA := ht435.new
  refine Mm ?_
  rcases Be (x432) with hc436 | hc436
  ·rw [if_pos hc436] at ho408
   refine Gf hc436 ?_
   obtain ⟨x437, hx437, ho408⟩ := Bs ho408
   refine V_indexAddrArr (α := (List know_Hit)) (e := 40) (b := b150) (m := 2) (l := s172.2) hH (i := 0) rfl hx437 underlying40 sizeOf39 rfl rfl rfl ?_
   intro b438 o439 h440 hl441
   refine Gf hc436 ?_
   obtain ⟨_, ⟨v442, rfl, h444⟩, h443⟩ := Hp.elemRep (α := (List know_Hit)) (e := 40) (v := (.slice (some ⟨b150, 0, none⟩) 2 2)) (l := s172.2) hH (i := 0) rfl hl441 hx437
   refine Ld (h443 0 _ rfl) isAgg39 (Gf hc436 ?_)
   obtain ⟨x445, hx445, ho408⟩ := Bs ho408
   refine V_indexAddrArr (α := (List know_Hit)) (e := 40) (b := b150) (m := 2) (l := s172.2) hH (i := 0) rfl hx445 underlying40 sizeOf39 rfl rfl rfl ?_
   intro b446 o447 h448 hl449
   refine Gf hc436 ?_
   obtain ⟨_, ⟨v450, rfl, h452⟩, h451⟩ := Hp.elemRep (α := (List know_Hit)) (e := 40) (v := (.slice (some ⟨b150, 0, none⟩) 2 2)) (l := s172.2) hH (i := 0) rfl hl449 hx445
   refine Ld (h451 0 _ rfl) isAgg39 (Gf hc436 ?_)
   obtain ⟨x453, hx453, ho408⟩ := Bs ho408
   refine Vc call16 (slices_Equal_Lknow_Hit_know_Hit_c (Dw := False) w433 hA x437 v442 h444 x445 v450 h452 hx453) ?_
   rintro _ w454 ⟨rfl, hk455⟩
   have ht456 := Kp.tr hk455 hA hB; replace hH := Hp.kp hH hk455; replace hr410 := Tt hr410 ht456
   refine Vy (Y_pick_te rfl hc436 rfl) (As ?_)
   obtain rfl := Oi ho408
   refine V_end (fun a ha457 => ?_)
   exact ⟨A178, ha457.sb, ⟨hH, hr410⟩⟩
  rw [if_neg (nt hc436)] at ho408
  refine Gm hc436 (Gm hc436 (Gm hc436 (Gm hc436 (Gm hc436 (Vy (Y_pick_fe rfl hc436 rfl) (As ?_))))))
  obtain rfl := Oi ho408
  refine V_end (fun a ha458 => ?_)
  exact ⟨A178, ha458.sb, ⟨hH, hr410⟩⟩
 rintro A414 w411 ⟨hH415, hk412⟩ a ha413
 replace hK := Tr.trans hK hk412; replace hA := hk412.new
 replace hH : Hp _ _ _ (obS (α := (List know_Hit)) 40 (.slice (some ⟨b150, 0, none⟩) 2 2) s172.2 :: obS (α := (List know_Hit)) 40 (.slice (some ⟨b145, 0, none⟩) 2 2) s172.1 :: []) := hH415
 refine C_at (n := ⟨163, [], none⟩) (fun _ _ => rfl) ?_ ha413
 obtain rfl := Oi hm
 refine Rt (Res.one results3 rfl) ?_
 exact ⟨rfl, hK.kp⟩
end Go.Proofs.YtjdjmddclfhpeaaGreatDoor.W
