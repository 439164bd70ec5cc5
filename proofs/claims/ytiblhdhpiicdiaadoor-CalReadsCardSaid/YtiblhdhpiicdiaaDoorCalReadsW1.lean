/-
  Written by program (gen.py) from the IR of the dump: each function computes its model.
-/
import Derived.Test.YtiblhdhpiicdiaaDoorCalReadsW0
namespace Go.Proofs.YtiblhdhpiicdiaaDoor.W
open Go Go.RowKit Go.Pu Go.Gw Go.Proofs Go.Proofs.YtiblhdhpiicdiaaDoor.M
set_option linter.unusedVariables false
set_option linter.unusedSimpArgs false
variable {Dw : Prop}

set_option maxRecDepth 4000 in
set_option maxHeartbeats 4000000 in
theorem portref2_digits_c (w : World) {A : Nat → Prop} (hA : ∀ b, w.heap.size ≤ b → A b) (s : ByteArray) (most : Int) {r : Bool} (hm : portref2_digits s most = some r) : Ret Tryd.prog 15 #[.string s, .int .i64 most] w fun v w' => v = .bool r ∧ Kp False w w' := by
  unfold portref2_digits at hm
  refine enter Tryd.func15 rfl Tryd.ntmps15 rfl ?_
  have hA0 := hA
  have hB := Nat.le_refl w.heap.size
  have hK : Tr False w.heap.size A w A w := Tr.refl (Dw := False) hA
  have hH : Hp w.heap.size A w [] := Hp.nil
  refine C_seq ?_
  refine C_region ?_
  refine V_y (Y_assign rfl) rfl rfl rfl ?_
  refine V_to (fun _ _ => rfl) ?_
  refine C_seq ?_
  obtain ⟨s2, ho1, hm⟩ := Option.bind_eq_some_iff.1 hm
  refine C_cutG (ι := (Nat → Prop)) (fun (A7 : (Nat → Prop)) => [(4, .bool s2)]) (fun (A7 : (Nat → Prop)) => fun w' => Hp w.heap.size A7 w' ([]) ∧ Tr False w.heap.size A w A7 w') ?_ ?_
  · have hr3 : Tr False w.heap.size A w A w := Tr.refl (Dw := False) hA
    refine C_region ?_
    refine V_y (Y_move rfl) rfl rfl rfl ?_
    refine V_y (Y_sneq rfl rfl) rfl rfl rfl ?_
    refine V_y (Y_move rfl) rfl rfl rfl ?_
    rcases Bool.eq_false_or_eq_true (!(strEq s (⟨#[]⟩ : ByteArray))) with hc9 | hc9
    · rw [if_pos hc9] at ho1
      refine V_ge rfl rfl rfl hc9 ?_
      refine V_y (Y_move rfl) rfl rfl rfl ?_
      refine V_ge rfl rfl rfl hc9 ?_
      refine V_y (Y_lenStr rfl Tryd.underlying9 rfl) rfl rfl rfl ?_
      refine V_ge rfl rfl rfl hc9 ?_
      refine V_y (Y_move rfl) rfl rfl rfl ?_
      refine V_ge rfl rfl rfl hc9 ?_
      refine V_y (Y_leq rfl rfl) rfl rfl rfl ?_
      refine V_y (Y_pick_te rfl hc9 rfl) rfl rfl rfl ?_
      refine V_y (Y_move rfl) rfl rfl rfl ?_
      rcases Bool.eq_false_or_eq_true (decide ((s.size : Int) ≤ most)) with hc10 | hc10
      · rw [if_pos hc10] at ho1
        refine V_ge rfl rfl rfl hc10 ?_
        refine V_y (Y_move rfl) rfl rfl rfl ?_
        refine V_ge rfl rfl rfl hc10 ?_
        obtain ⟨x11, hx11, ho1⟩ := Option.bind_eq_some_iff.1 ho1
        refine V_call Tryd.call13 rfl rfl rfl rfl (strings_Trim_c w hA s (⟨#[48, 49, 50, 51, 52, 53, 54, 55, 56, 57]⟩ : ByteArray) hx11) ?_
        rintro _ w12 ⟨rfl, hk13⟩
        have ht14 := Kp.tr (Dw := False) hk13 hA hB
        replace hH := Hp.kp (Dw := False) hH hk13
        replace hK := Tr.trans (Dw := False) hK ht14
        replace hr3 := Tr.trans (Dw := False) hr3 ht14
        replace hB := Nat.le_trans hB ht14.ex.size
        replace hA := ht14.new
        refine V_ge rfl rfl rfl hc10 ?_
        refine V_y (Y_seql rfl rfl) rfl rfl rfl ?_
        refine V_y (Y_pick_te rfl hc10 rfl) rfl rfl rfl ?_
        refine V_y (Y_move rfl) rfl rfl rfl ?_
        rcases Bool.eq_false_or_eq_true (strEq x11 (⟨#[]⟩ : ByteArray)) with hc15 | hc15
        · rw [if_pos hc15] at ho1
          refine V_ge rfl rfl rfl hc15 ?_
          refine V_y (Y_move rfl) rfl rfl rfl ?_
          refine V_ge rfl rfl rfl hc15 ?_
          refine V_y (Y_lenStr rfl Tryd.underlying9 rfl) rfl rfl rfl ?_
          refine V_ge rfl rfl rfl hc15 ?_
          refine V_y (Y_eql rfl rfl) rfl rfl rfl ?_
          refine V_ge rfl rfl rfl hc15 ?_
          refine V_y (Y_move rfl) rfl rfl rfl ?_
          rcases Bool.eq_false_or_eq_true ((s.size : Int) == 1) with hc16 | hc16
          · rw [if_pos hc16] at ho1
            refine V_gn rfl rfl rfl hc16 rfl rfl rfl ?_
            refine V_gn rfl rfl rfl hc16 rfl rfl rfl ?_
            refine V_gn rfl rfl rfl hc16 rfl rfl rfl ?_
            refine V_ge rfl rfl rfl hc15 ?_
            refine V_y (Y_pick_te rfl hc16 rfl) rfl rfl rfl ?_
            refine V_y (Y_pick_te rfl hc15 rfl) rfl rfl rfl ?_
            refine V_y (Y_assign rfl) rfl rfl rfl ?_
            obtain rfl := Option.some.inj ho1
            refine V_end (fun a ha17 => ?_)
            exact ⟨A, ha17.sub ⟨rfl, trivial⟩, ⟨hH, hr3⟩⟩
          · rw [if_neg (nt hc16)] at ho1
            refine V_ge rfl rfl rfl hc16 ?_
            refine V_y (Y_move rfl) rfl rfl rfl ?_
            refine V_ge rfl rfl rfl hc16 ?_
            obtain ⟨x18, hx18, ho1⟩ := Option.bind_eq_some_iff.1 ho1
            refine V_y (Y_indexS hx18 Tryd.underlying9 rfl rfl) rfl rfl rfl ?_
            refine V_ge rfl rfl rfl hc16 ?_
            refine V_y (Y_neq rfl rfl) rfl rfl rfl ?_
            refine V_ge rfl rfl rfl hc15 ?_
            refine V_y (Y_pick_fe rfl hc16 rfl) rfl rfl rfl ?_
            refine V_y (Y_pick_te rfl hc15 rfl) rfl rfl rfl ?_
            refine V_y (Y_assign rfl) rfl rfl rfl ?_
            obtain rfl := Option.some.inj ho1
            refine V_end (fun a ha19 => ?_)
            exact ⟨A, ha19.sub ⟨rfl, trivial⟩, ⟨hH, hr3⟩⟩
        · rw [if_neg (nt hc15)] at ho1
          refine V_gn rfl rfl rfl hc15 rfl rfl rfl ?_
          refine V_gn rfl rfl rfl hc15 rfl rfl rfl ?_
          refine V_gn rfl rfl rfl hc15 rfl rfl rfl ?_
          refine V_gn rfl rfl rfl hc15 rfl rfl rfl ?_
          refine V_gu rfl rfl rfl rfl rfl ?_
          refine V_gu rfl rfl rfl rfl rfl ?_
          refine V_gu rfl rfl rfl rfl rfl ?_
          refine V_gn rfl rfl rfl hc15 rfl rfl rfl ?_
          refine V_y (Y_pick_fe rfl hc15 rfl) rfl rfl rfl ?_
          refine V_y (Y_assign rfl) rfl rfl rfl ?_
          obtain rfl := Option.some.inj ho1
          refine V_end (fun a ha20 => ?_)
          exact ⟨A, ha20.sub ⟨rfl, trivial⟩, ⟨hH, hr3⟩⟩
      · rw [if_neg (nt hc10)] at ho1
        refine V_gn rfl rfl rfl hc10 rfl rfl rfl ?_
        refine V_gn rfl rfl rfl hc10 rfl rfl rfl ?_
        refine V_gn rfl rfl rfl hc10 rfl rfl rfl ?_
        refine V_y (Y_pick_fe rfl hc10 rfl) rfl rfl rfl ?_
        refine V_y (Y_move rfl) rfl rfl rfl ?_
        rcases Bool.eq_false_or_eq_true (false) with hc21 | hc21
        · rw [if_pos hc21] at ho1
          refine V_ge rfl rfl rfl hc21 ?_
          refine V_y (Y_move rfl) rfl rfl rfl ?_
          refine V_ge rfl rfl rfl hc21 ?_
          refine V_y (Y_lenStr rfl Tryd.underlying9 rfl) rfl rfl rfl ?_
          refine V_ge rfl rfl rfl hc21 ?_
          refine V_y (Y_eql rfl rfl) rfl rfl rfl ?_
          refine V_ge rfl rfl rfl hc21 ?_
          refine V_y (Y_move rfl) rfl rfl rfl ?_
          rcases Bool.eq_false_or_eq_true ((s.size : Int) == 1) with hc22 | hc22
          · rw [if_pos hc22] at ho1
            refine V_gn rfl rfl rfl hc22 rfl rfl rfl ?_
            refine V_gn rfl rfl rfl hc22 rfl rfl rfl ?_
            refine V_gn rfl rfl rfl hc22 rfl rfl rfl ?_
            refine V_ge rfl rfl rfl hc21 ?_
            refine V_y (Y_pick_te rfl hc22 rfl) rfl rfl rfl ?_
            refine V_y (Y_pick_te rfl hc21 rfl) rfl rfl rfl ?_
            refine V_y (Y_assign rfl) rfl rfl rfl ?_
            obtain rfl := Option.some.inj ho1
            refine V_end (fun a ha23 => ?_)
            exact ⟨A, ha23.sub ⟨rfl, trivial⟩, ⟨hH, hr3⟩⟩
          · rw [if_neg (nt hc22)] at ho1
            refine V_ge rfl rfl rfl hc22 ?_
            refine V_y (Y_move rfl) rfl rfl rfl ?_
            refine V_ge rfl rfl rfl hc22 ?_
            obtain ⟨x24, hx24, ho1⟩ := Option.bind_eq_some_iff.1 ho1
            refine V_y (Y_indexS hx24 Tryd.underlying9 rfl rfl) rfl rfl rfl ?_
            refine V_ge rfl rfl rfl hc22 ?_
            refine V_y (Y_neq rfl rfl) rfl rfl rfl ?_
            refine V_ge rfl rfl rfl hc21 ?_
            refine V_y (Y_pick_fe rfl hc22 rfl) rfl rfl rfl ?_
            refine V_y (Y_pick_te rfl hc21 rfl) rfl rfl rfl ?_
            refine V_y (Y_assign rfl) rfl rfl rfl ?_
            obtain rfl := Option.some.inj ho1
            refine V_end (fun a ha25 => ?_)
            exact ⟨A, ha25.sub ⟨rfl, trivial⟩, ⟨hH, hr3⟩⟩
        · rw [if_neg (nt hc21)] at ho1
          refine V_gn rfl rfl rfl hc21 rfl rfl rfl ?_
          refine V_gn rfl rfl rfl hc21 rfl rfl rfl ?_
          refine V_gn rfl rfl rfl hc21 rfl rfl rfl ?_
          refine V_gn rfl rfl rfl hc21 rfl rfl rfl ?_
          refine V_gu rfl rfl rfl rfl rfl ?_
          refine V_gu rfl rfl rfl rfl rfl ?_
          refine V_gu rfl rfl rfl rfl rfl ?_
          refine V_gn rfl rfl rfl hc21 rfl rfl rfl ?_
          refine V_y (Y_pick_fe rfl hc21 rfl) rfl rfl rfl ?_
          refine V_y (Y_assign rfl) rfl rfl rfl ?_
          obtain rfl := Option.some.inj ho1
          refine V_end (fun a ha26 => ?_)
          exact ⟨A, ha26.sub ⟨rfl, trivial⟩, ⟨hH, hr3⟩⟩
    · rw [if_neg (nt hc9)] at ho1
      refine V_gn rfl rfl rfl hc9 rfl rfl rfl ?_
      refine V_gn rfl rfl rfl hc9 rfl rfl rfl ?_
      refine V_gn rfl rfl rfl hc9 rfl rfl rfl ?_
      refine V_gn rfl rfl rfl hc9 rfl rfl rfl ?_
      refine V_y (Y_pick_fe rfl hc9 rfl) rfl rfl rfl ?_
      refine V_y (Y_move rfl) rfl rfl rfl ?_
      rcases Bool.eq_false_or_eq_true (false) with hc27 | hc27
      · rw [if_pos hc27] at ho1
        refine V_ge rfl rfl rfl hc27 ?_
        refine V_y (Y_move rfl) rfl rfl rfl ?_
        refine V_ge rfl rfl rfl hc27 ?_
        obtain ⟨x28, hx28, ho1⟩ := Option.bind_eq_some_iff.1 ho1
        refine V_call Tryd.call13 rfl rfl rfl rfl (strings_Trim_c w hA s (⟨#[48, 49, 50, 51, 52, 53, 54, 55, 56, 57]⟩ : ByteArray) hx28) ?_
        rintro _ w29 ⟨rfl, hk30⟩
        have ht31 := Kp.tr (Dw := False) hk30 hA hB
        replace hH := Hp.kp (Dw := False) hH hk30
        replace hK := Tr.trans (Dw := False) hK ht31
        replace hr3 := Tr.trans (Dw := False) hr3 ht31
        replace hB := Nat.le_trans hB ht31.ex.size
        replace hA := ht31.new
        refine V_ge rfl rfl rfl hc27 ?_
        refine V_y (Y_seql rfl rfl) rfl rfl rfl ?_
        refine V_y (Y_pick_te rfl hc27 rfl) rfl rfl rfl ?_
        refine V_y (Y_move rfl) rfl rfl rfl ?_
        rcases Bool.eq_false_or_eq_true (strEq x28 (⟨#[]⟩ : ByteArray)) with hc32 | hc32
        · rw [if_pos hc32] at ho1
          refine V_ge rfl rfl rfl hc32 ?_
          refine V_y (Y_move rfl) rfl rfl rfl ?_
          refine V_ge rfl rfl rfl hc32 ?_
          refine V_y (Y_lenStr rfl Tryd.underlying9 rfl) rfl rfl rfl ?_
          refine V_ge rfl rfl rfl hc32 ?_
          refine V_y (Y_eql rfl rfl) rfl rfl rfl ?_
          refine V_ge rfl rfl rfl hc32 ?_
          refine V_y (Y_move rfl) rfl rfl rfl ?_
          rcases Bool.eq_false_or_eq_true ((s.size : Int) == 1) with hc33 | hc33
          · rw [if_pos hc33] at ho1
            refine V_gn rfl rfl rfl hc33 rfl rfl rfl ?_
            refine V_gn rfl rfl rfl hc33 rfl rfl rfl ?_
            refine V_gn rfl rfl rfl hc33 rfl rfl rfl ?_
            refine V_ge rfl rfl rfl hc32 ?_
            refine V_y (Y_pick_te rfl hc33 rfl) rfl rfl rfl ?_
            refine V_y (Y_pick_te rfl hc32 rfl) rfl rfl rfl ?_
            refine V_y (Y_assign rfl) rfl rfl rfl ?_
            obtain rfl := Option.some.inj ho1
            refine V_end (fun a ha34 => ?_)
            exact ⟨A, ha34.sub ⟨rfl, trivial⟩, ⟨hH, hr3⟩⟩
          · rw [if_neg (nt hc33)] at ho1
            refine V_ge rfl rfl rfl hc33 ?_
            refine V_y (Y_move rfl) rfl rfl rfl ?_
            refine V_ge rfl rfl rfl hc33 ?_
            obtain ⟨x35, hx35, ho1⟩ := Option.bind_eq_some_iff.1 ho1
            refine V_y (Y_indexS hx35 Tryd.underlying9 rfl rfl) rfl rfl rfl ?_
            refine V_ge rfl rfl rfl hc33 ?_
            refine V_y (Y_neq rfl rfl) rfl rfl rfl ?_
            refine V_ge rfl rfl rfl hc32 ?_
            refine V_y (Y_pick_fe rfl hc33 rfl) rfl rfl rfl ?_
            refine V_y (Y_pick_te rfl hc32 rfl) rfl rfl rfl ?_
            refine V_y (Y_assign rfl) rfl rfl rfl ?_
            obtain rfl := Option.some.inj ho1
            refine V_end (fun a ha36 => ?_)
            exact ⟨A, ha36.sub ⟨rfl, trivial⟩, ⟨hH, hr3⟩⟩
        · rw [if_neg (nt hc32)] at ho1
          refine V_gn rfl rfl rfl hc32 rfl rfl rfl ?_
          refine V_gn rfl rfl rfl hc32 rfl rfl rfl ?_
          refine V_gn rfl rfl rfl hc32 rfl rfl rfl ?_
          refine V_gn rfl rfl rfl hc32 rfl rfl rfl ?_
          refine V_gu rfl rfl rfl rfl rfl ?_
          refine V_gu rfl rfl rfl rfl rfl ?_
          refine V_gu rfl rfl rfl rfl rfl ?_
          refine V_gn rfl rfl rfl hc32 rfl rfl rfl ?_
          refine V_y (Y_pick_fe rfl hc32 rfl) rfl rfl rfl ?_
          refine V_y (Y_assign rfl) rfl rfl rfl ?_
          obtain rfl := Option.some.inj ho1
          refine V_end (fun a ha37 => ?_)
          exact ⟨A, ha37.sub ⟨rfl, trivial⟩, ⟨hH, hr3⟩⟩
      · rw [if_neg (nt hc27)] at ho1
        refine V_gn rfl rfl rfl hc27 rfl rfl rfl ?_
        refine V_gn rfl rfl rfl hc27 rfl rfl rfl ?_
        refine V_gn rfl rfl rfl hc27 rfl rfl rfl ?_
        refine V_y (Y_pick_fe rfl hc27 rfl) rfl rfl rfl ?_
        refine V_y (Y_move rfl) rfl rfl rfl ?_
        rcases Bool.eq_false_or_eq_true (false) with hc38 | hc38
        · rw [if_pos hc38] at ho1
          refine V_ge rfl rfl rfl hc38 ?_
          refine V_y (Y_move rfl) rfl rfl rfl ?_
          refine V_ge rfl rfl rfl hc38 ?_
          refine V_y (Y_lenStr rfl Tryd.underlying9 rfl) rfl rfl rfl ?_
          refine V_ge rfl rfl rfl hc38 ?_
          refine V_y (Y_eql rfl rfl) rfl rfl rfl ?_
          refine V_ge rfl rfl rfl hc38 ?_
          refine V_y (Y_move rfl) rfl rfl rfl ?_
          rcases Bool.eq_false_or_eq_true ((s.size : Int) == 1) with hc39 | hc39
          · rw [if_pos hc39] at ho1
            refine V_gn rfl rfl rfl hc39 rfl rfl rfl ?_
            refine V_gn rfl rfl rfl hc39 rfl rfl rfl ?_
            refine V_gn rfl rfl rfl hc39 rfl rfl rfl ?_
            refine V_ge rfl rfl rfl hc38 ?_
            refine V_y (Y_pick_te rfl hc39 rfl) rfl rfl rfl ?_
            refine V_y (Y_pick_te rfl hc38 rfl) rfl rfl rfl ?_
            refine V_y (Y_assign rfl) rfl rfl rfl ?_
            obtain rfl := Option.some.inj ho1
            refine V_end (fun a ha40 => ?_)
            exact ⟨A, ha40.sub ⟨rfl, trivial⟩, ⟨hH, hr3⟩⟩
          · rw [if_neg (nt hc39)] at ho1
            refine V_ge rfl rfl rfl hc39 ?_
            refine V_y (Y_move rfl) rfl rfl rfl ?_
            refine V_ge rfl rfl rfl hc39 ?_
            obtain ⟨x41, hx41, ho1⟩ := Option.bind_eq_some_iff.1 ho1
            refine V_y (Y_indexS hx41 Tryd.underlying9 rfl rfl) rfl rfl rfl ?_
            refine V_ge rfl rfl rfl hc39 ?_
            refine V_y (Y_neq rfl rfl) rfl rfl rfl ?_
            refine V_ge rfl rfl rfl hc38 ?_
            refine V_y (Y_pick_fe rfl hc39 rfl) rfl rfl rfl ?_
            refine V_y (Y_pick_te rfl hc38 rfl) rfl rfl rfl ?_
            refine V_y (Y_assign rfl) rfl rfl rfl ?_
            obtain rfl := Option.some.inj ho1
            refine V_end (fun a ha42 => ?_)
            exact ⟨A, ha42.sub ⟨rfl, trivial⟩, ⟨hH, hr3⟩⟩
        · rw [if_neg (nt hc38)] at ho1
          refine V_gn rfl rfl rfl hc38 rfl rfl rfl ?_
          refine V_gn rfl rfl rfl hc38 rfl rfl rfl ?_
          refine V_gn rfl rfl rfl hc38 rfl rfl rfl ?_
          refine V_gn rfl rfl rfl hc38 rfl rfl rfl ?_
          refine V_gu rfl rfl rfl rfl rfl ?_
          refine V_gu rfl rfl rfl rfl rfl ?_
          refine V_gu rfl rfl rfl rfl rfl ?_
          refine V_gn rfl rfl rfl hc38 rfl rfl rfl ?_
          refine V_y (Y_pick_fe rfl hc38 rfl) rfl rfl rfl ?_
          refine V_y (Y_assign rfl) rfl rfl rfl ?_
          obtain rfl := Option.some.inj ho1
          refine V_end (fun a ha43 => ?_)
          exact ⟨A, ha43.sub ⟨rfl, trivial⟩, ⟨hH, hr3⟩⟩
  rintro A7 w4 ⟨hH8, hk5⟩ a ha6
  replace hK := Tr.trans (Dw := False) hK hk5
  replace hB := Nat.le_trans hB hk5.ex.size
  replace hA := hk5.new
  replace hH : Hp w.heap.size A7 w4 ([]) := hH8
  refine C_at (n := ⟨28, [], none⟩) (fun _ _ => rfl) ?_ ha6
  obtain rfl := Option.some.inj hm
  refine C_ret ?_
  try simp only [↓inBlock_ret, ↓then_ret]
  exact retQ rfl (Res.one Tryd.results15 rfl) ⟨rfl, hK.kp⟩

set_option maxRecDepth 4000 in
set_option maxHeartbeats 4000000 in
theorem portref2_number_c (w : World) {A : Nat → Prop} (hA : ∀ b, w.heap.size ≤ b → A b) (hT : Fz Tryd_FR A w) (s : ByteArray) (most : Int) {r : (Int × Bool)} (hm : portref2_number s most = some r) : Ret Tryd.prog 12 #[.string s, .int .i64 most] w fun v w' => v = .tuple #[.int .i64 r.1, .bool r.2] ∧ Kp False w w' := by
  unfold portref2_number at hm
  refine enter Tryd.func12 rfl Tryd.ntmps12 rfl ?_
  have hA0 := hA
  have hB := Nat.le_refl w.heap.size
  have hK : Tr False w.heap.size A w A w := Tr.refl (Dw := False) hA
  have hH : Hp w.heap.size A w [] := Hp.nil
  refine C_seq ?_
  refine C_region ?_
  refine V_y (Y_assign rfl) rfl rfl rfl ?_
  refine V_y (Y_assign rfl) rfl rfl rfl ?_
  refine V_to (fun _ _ => rfl) ?_
  refine C_seq ?_
  refine C_region ?_
  refine V_y (Y_move rfl) rfl rfl rfl ?_
  obtain ⟨x1, hx1, hm⟩ := Option.bind_eq_some_iff.1 hm
  refine V_call Tryd.call20 rfl rfl rfl rfl (strings_TrimPrefix_c w s (⟨#[45]⟩ : ByteArray) hx1) ?_
  rintro _ _ ⟨rfl, rfl⟩
  refine V_y (Y_assign rfl) rfl rfl rfl ?_
  refine V_to (fun _ _ => rfl) ?_
  refine C_seq ?_
  refine C_seq ?_
  refine C_region ?_
  refine V_y (Y_move rfl) rfl rfl rfl ?_
  refine V_y (Y_move rfl) rfl rfl rfl ?_
  obtain ⟨x2, hx2, hm⟩ := Option.bind_eq_some_iff.1 hm
  refine V_call Tryd.call15 rfl rfl rfl rfl (portref2_digits_c w hA x1 most hx2) ?_
  rintro _ w3 ⟨rfl, hk4⟩
  have ht5 := Kp.tr (Dw := False) hk4 hA hB
  replace hH := Hp.kp (Dw := False) hH hk4
  replace hK := Tr.trans (Dw := False) hK ht5
  replace hB := Nat.le_trans hB ht5.ex.size
  replace hA := ht5.new
  refine V_y (Y_not rfl) rfl rfl rfl ?_
  refine V_y (Y_move rfl) rfl rfl rfl ?_
  refine V_cut 7 (fun _ : Unit => [(0, .string s), (22, .bool ((!x2) || ((strEq x1 (⟨#[48]⟩ : ByteArray)) && (!(strEq s (⟨#[48]⟩ : ByteArray))))))]) (fun _ w' => w3 = w') ?_ ?_
  · simp only [List.take, List.drop]
    rcases Bool.eq_false_or_eq_true (!x2) with hc6 | hc6
    · refine V_gn rfl rfl rfl hc6 rfl rfl rfl ?_
      refine V_gn rfl rfl rfl hc6 rfl rfl rfl ?_
      refine V_gn rfl rfl rfl hc6 rfl rfl rfl ?_
      refine V_gu rfl rfl rfl rfl rfl ?_
      refine V_gu rfl rfl rfl rfl rfl ?_
      refine V_gn rfl rfl rfl hc6 rfl rfl rfl ?_
      refine V_y (Y_pick_te rfl hc6 rfl) rfl rfl rfl ?_
      exact V_end fun a ha => ⟨(), ha.sub ⟨rfl, (by rw [hc6]; rfl), trivial⟩, rfl⟩
    · refine V_ge rfl rfl rfl hc6 ?_
      refine V_y (Y_move rfl) rfl rfl rfl ?_
      refine V_ge rfl rfl rfl hc6 ?_
      refine V_y (Y_seql rfl rfl) rfl rfl rfl ?_
      refine V_ge rfl rfl rfl hc6 ?_
      refine V_y (Y_move rfl) rfl rfl rfl ?_
      refine V_cut 3 (fun _ : Unit => [(0, .string s), (15, .bool (!x2)), (21, .bool ((strEq x1 (⟨#[48]⟩ : ByteArray)) && (!(strEq s (⟨#[48]⟩ : ByteArray)))))]) (fun _ w' => w3 = w') ?_ ?_
      · simp only [List.take, List.drop]
        rcases Bool.eq_false_or_eq_true (strEq x1 (⟨#[48]⟩ : ByteArray)) with hc8 | hc8
        · refine V_ge rfl rfl rfl hc8 ?_
          refine V_y (Y_move rfl) rfl rfl rfl ?_
          refine V_ge rfl rfl rfl hc8 ?_
          refine V_y (Y_sneq rfl rfl) rfl rfl rfl ?_
          refine V_ge rfl rfl rfl hc6 ?_
          refine V_y (Y_pick_te rfl hc8 rfl) rfl rfl rfl ?_
          exact V_end fun a ha => ⟨(), ha.sub ⟨rfl, rfl, (by rw [hc8]; rfl), trivial⟩, rfl⟩
        · refine V_gn rfl rfl rfl hc8 rfl rfl rfl ?_
          refine V_gn rfl rfl rfl hc8 rfl rfl rfl ?_
          refine V_ge rfl rfl rfl hc6 ?_
          refine V_y (Y_pick_fe rfl hc8 rfl) rfl rfl rfl ?_
          exact V_end fun a ha => ⟨(), ha.sub ⟨rfl, rfl, (by rw [hc8]; rfl), trivial⟩, rfl⟩
      simp only [List.take, List.drop]
      rintro _ _ rfl
      refine V_y (Y_pick_fe rfl hc6 rfl) rfl rfl rfl ?_
      exact V_end fun a ha => ⟨(), ha.sub ⟨rfl, (by rw [hc6]; rfl), trivial⟩, rfl⟩
  simp only [List.take, List.drop]
  rintro _ _ rfl
  refine V_to (fun _ _ => rfl) ?_
  refine C_cond rfl (fun hc10 => ?_) (fun hc10 => ?_)
  · rw [if_pos hc10] at hm
    refine C_seq ?_
    refine C_region ?_
    refine V_y (Y_assign rfl) rfl rfl rfl ?_
    refine V_y (Y_assign rfl) rfl rfl rfl ?_
    refine V_to (fun _ _ => rfl) ?_
    obtain rfl := Option.some.inj hm
    refine C_ret ?_
    try simp only [↓inBlock_ret, ↓then_ret]
    exact retQ rfl (Res.two Tryd.results12 rfl rfl) ⟨rfl, hK.kp⟩
  · rw [if_neg (nt hc10)] at hm
    refine C_skip_to (fun _ _ => rfl) ?_
    refine C_seq ?_
    refine C_region ?_
    refine V_y (Y_move rfl) rfl rfl rfl ?_
    obtain ⟨x11, hx11, hm⟩ := Option.bind_eq_some_iff.1 hm
    refine V_call Tryd.call14 rfl rfl rfl rfl (strconv_Atoi_c w3 hA ⟨((Fz.tr (Dw := False) hT hK)).2.1, ((Fz.tr (Dw := False) hT hK)).2.2⟩ s hx11) ?_
    rintro _ w14 ⟨v12, rfl, h13, hk15⟩
    have ht16 := Kp.tr (Dw := False) hk15 hA hB
    replace hH := Hp.kp (Dw := False) hH hk15
    replace hK := Tr.trans (Dw := False) hK ht16
    replace hB := Nat.le_trans hB ht16.ex.size
    replace hA := ht16.new
    refine V_y (Y_move rfl) rfl rfl rfl ?_
    refine V_y (Y_extract rfl rfl) rfl rfl rfl ?_
    refine V_y (Y_extract rfl rfl) rfl rfl rfl ?_
    refine V_y (Y_assign rfl) rfl rfl rfl ?_
    refine V_y (Y_assign rfl) rfl rfl rfl ?_
    refine V_to (fun _ _ => rfl) ?_
    refine C_seq ?_
    refine C_region_q (Dw := False) Tryd_mixed (by kernel_rfl) ?_
    refine VQ_y (fun w' hw' => Y_move rfl) rfl rfl rfl ?_
    refine VQ_y (fun w' hw' => Y_move rfl) rfl rfl rfl ?_
    refine VQ_y (fun w' hw' => Y_eqlER h13 Tryd.underlying39 rfl) rfl rfl rfl ?_
    refine VQ_y (fun w' hw' => Y_assign rfl) rfl rfl rfl ?_
    refine VQ_y (fun w' hw' => Y_assign rfl) rfl rfl rfl ?_
    refine VQ_to (fun _ _ => rfl) (fun w17 hk18 => ?_)
    have ht19 := Kp.tr (Dw := False) hk18 hA hB
    replace hH := Hp.kp (Dw := False) hH hk18
    replace hK := Tr.trans (Dw := False) hK ht19
    replace hB := Nat.le_trans hB ht19.ex.size
    replace hA := ht19.new
    obtain rfl := Option.some.inj hm
    refine C_ret ?_
    try simp only [↓inBlock_ret, ↓then_ret]
    exact retQ rfl (Res.two Tryd.results12 rfl rfl) ⟨rfl, hK.kp⟩

set_option maxRecDepth 4000 in
set_option maxHeartbeats 4000000 in
theorem portref2_OffsetIn_c (w : World) {A : Nat → Prop} (hA : ∀ b, w.heap.size ≤ b → A b) (z : cal_Zone) (v_z : Value) (h_z : Sl A w v_z z.changes) (m : Int) {r : Int} (hm : portref2_OffsetIn z m = some r) : Ret Tryd.prog 34 #[.agg #[.int .i64 z.offset, v_z], .int .i64 m] w fun v w' => v = .int .i64 r ∧ Kp Dw w w' := by
  unfold portref2_OffsetIn at hm
  refine enter Tryd.func34 rfl Tryd.ntmps34 rfl ?_
  have hA0 := hA
  have hB := Nat.le_refl w.heap.size
  have hK : Tr Dw w.heap.size A w A w := Tr.refl (Dw := Dw) hA
  have hH : Hp w.heap.size A w [] := Hp.nil
  refine C_seq ?_
  refine C_region ?_
  refine V_box rfl rfl ?_
  intro b3 w4 h5
  have hk7 := h5.kp (Dw := Dw)
  have h6 : El (α := cal_Zone) A w4 b3 0 z := h5.el hA ⟨[.int .i64 z.offset], _, rfl, rfl, ⟨_, rfl, h_z⟩⟩
  have ht8 := Kp.tr (Dw := Dw) hk7 hA hB
  replace hH := Hp.kp (Dw := Dw) hH hk7
  replace h_z := Sl.tr (Dw := Dw) h_z ht8
  replace hK := Tr.trans (Dw := Dw) hK ht8
  replace hB := Nat.le_trans hB ht8.ex.size
  replace hA := ht8.new
  refine V_y (Y_assign rfl) rfl rfl rfl ?_
  refine V_to (fun _ _ => rfl) ?_
  refine C_seq ?_
  refine C_region ?_
  have h9 := El_cal_Zone_0 h6
  refine V_y (Y_fieldAddr Tryd.underlying24 rfl Tryd.sizeOf3 (by decide) rfl) rfl rfl rfl ?_
  refine V_y (Y_load (El.int h9) Tryd.isAgg3 rfl) rfl rfl rfl ?_
  refine V_y (Y_assign rfl) rfl rfl rfl ?_
  refine V_to (fun _ _ => rfl) ?_
  refine C_seq ?_
  refine C_seq ?_
  refine C_region ?_
  have h10 := El_cal_Zone_1 h6
  refine V_y (Y_fieldAddr Tryd.underlying24 rfl Tryd.sizeOf22 (by decide) rfl) rfl rfl rfl ?_
  obtain ⟨v11, h12, h13⟩ := El.list h10
  refine V_y (Y_load h12 Tryd.isAgg22 rfl) rfl rfl rfl ?_
  refine V_y (Y_lenSl h13 rfl Tryd.underlying22 rfl) rfl rfl rfl ?_
  refine V_y (Y_move rfl) rfl rfl rfl ?_
  refine V_to (fun _ _ => rfl) ?_
  have hn34 := Sl.le h13
  obtain ⟨o14, ho14, hm⟩ := Option.bind_eq_some_iff.1 hm
  refine C_cutG (ι := (Int × (Nat → Prop))) (fun ⟨s15, A21⟩ => [(5, .int .i64 s15)]) (fun ⟨s15, A21⟩ => fun w' => o14 = .fin s15 ∧ Hp w.heap.size A21 w' ([]) ∧ Tr Dw w.heap.size A w4 A21 w') ?_ ?_
  · refine C_block ?_
    refine C_range ho14 (fun k17 s23 a w' => ∃ i : (Nat → Prop), Has ⟨25, [], none⟩ a ([(1, .int .i64 m), (5, .int .i64 s23), (11, v11), (12, .int .i64 (z.changes.length : Int)), (13, .int .i64 (k17 : Int))]) ∧ Hp w.heap.size i w' ([]) ∧ Tr Dw w.heap.size A w4 i w') (fun a ha => ⟨A, ha.sub ⟨rfl, rfl, rfl, rfl, rfl, trivial⟩, ⟨hH, Tr.refl (Dw := Dw) hA⟩⟩) ?_
    rintro K k17 s23 a w24 ⟨A25, ha71, hH26, hr16⟩ hle30 K33 h32
    refine C_of ?_ ha71
    replace h13 := Sl.tr (Dw := Dw) h13 hr16
    replace hK := Tr.trans (Dw := Dw) hK hr16
    replace hB := Nat.le_trans hB hr16.ex.size
    replace hA := hr16.new
    replace hH : Hp w.heap.size A25 w24 ([]) := hH26
    refine C_seq (C_region (V_y (Y_lss rfl rfl) rfl rfl rfl (V_to (fun _ _ => rfl) ?_)))
    refine C_seq ?_
    refine C_cond rfl (fun hc35 => ?_) (fun hc35 => ?_)
    · have hlt31 := lt_of_dec hc35
      obtain ⟨x27, h28, h29⟩ := K33 hlt31
      refine C_skip_to (fun _ _ => rfl) ?_
      refine C_seq ?_
      obtain ⟨s37, ho36, h28⟩ := Option.bind_eq_some_iff.1 h28
      refine C_cutG (ι := (Nat → Prop)) (fun (A42 : (Nat → Prop)) => [(1, .int .i64 m), (5, .int .i64 s37), (11, v11), (12, .int .i64 (z.changes.length : Int)), (13, .int .i64 (k17 : Int))]) (fun (A42 : (Nat → Prop)) => fun w' => Hp w.heap.size A42 w' ([]) ∧ Tr Dw w.heap.size A25 w24 A42 w') ?_ ?_
      · have hr38 : Tr Dw w.heap.size A25 w24 A25 w24 := Tr.refl (Dw := Dw) hA
        refine C_block ?_
        refine C_seq ?_
        refine C_region ?_
        obtain ⟨x44, hx44, ho36⟩ := Option.bind_eq_some_iff.1 ho36
        refine V_indexAddr h13 hx44 Tryd.underlying22 Tryd.sizeOf46 rfl rfl rfl ?_
        intro b45 o46 h47
        obtain ⟨h48, _⟩ := El_cal_Change h47
        refine V_y (Y_loadA h48 Tryd.isAgg46 Tryd.sizeOf46 rfl) rfl rfl rfl ?_
        refine V_alloc Tryd.zeroValue46 rfl ?_
        intro b49 w50 h51
        refine V_storeNew h51 Tryd.sizeOf46 rfl rfl rfl rfl (by exact (List.forall_mem_cons.2 ⟨rfl, (List.forall_mem_cons.2 ⟨rfl, (fun _ h => nomatch h)⟩)⟩)) ?_
        intro w52 h53
        have hk55 := h53.kp (Dw := Dw)
        have h54 : El (α := cal_Change) A25 w52 b49 0 x44 := h53.el hA ⟨[.int .i64 x44.at_], _, rfl, rfl, rfl⟩
        have ht56 := Kp.tr (Dw := Dw) hk55 hA hB
        replace hH := Hp.kp (Dw := Dw) hH hk55
        replace h13 := Sl.tr (Dw := Dw) h13 ht56
        replace h47 := El.tr (Dw := Dw) h47 ht56
        replace hK := Tr.trans (Dw := Dw) hK ht56
        replace hr16 := Tr.trans (Dw := Dw) hr16 ht56
        replace hr38 := Tr.trans (Dw := Dw) hr38 ht56
        replace hB := Nat.le_trans hB ht56.ex.size
        replace hA := ht56.new
        refine V_to (fun _ _ => rfl) ?_
        refine C_seq ?_
        refine C_region ?_
        have h57 := El_cal_Change_0 h54
        refine V_y (Y_fieldAddr Tryd.underlying46 rfl Tryd.sizeOf3 (by decide) rfl) rfl rfl rfl ?_
        refine V_y (Y_load (El.int h57) Tryd.isAgg3 rfl) rfl rfl rfl ?_
        refine V_y (Y_move rfl) rfl rfl rfl ?_
        refine V_y (Y_leq rfl rfl) rfl rfl rfl ?_
        refine V_to (fun _ _ => rfl) ?_
        obtain ⟨s59, ho58, ho36⟩ := Option.bind_eq_some_iff.1 ho36
        refine C_cutG (ι := Unit) (fun (_ : Unit) => [(1, .int .i64 m), (5, .int .i64 s59), (11, v11), (12, .int .i64 (z.changes.length : Int)), (13, .int .i64 (k17 : Int))]) (fun (_ : Unit) => fun w' => w52 = w') ?_ ?_
        · refine C_cond rfl (fun hc64 => ?_) (fun hc64 => ?_)
          · rw [if_pos hc64] at ho58
            refine C_region ?_
            have h65 := El_cal_Change_1 h54
            refine V_y (Y_fieldAddr Tryd.underlying46 rfl Tryd.sizeOf3 (by decide) rfl) rfl rfl rfl ?_
            refine V_y (Y_load (El.int h65) Tryd.isAgg3 rfl) rfl rfl rfl ?_
            refine V_y (Y_assign rfl) rfl rfl rfl ?_
            obtain rfl := Option.some.inj ho58
            refine V_end (fun a ha66 => ?_)
            exact ⟨(), ha66.sub ⟨rfl, rfl, rfl, rfl, rfl, trivial⟩, rfl⟩
          · rw [if_neg (nt hc64)] at ho58
            obtain rfl := Option.some.inj ho58
            refine C_skip (fun a ha67 => ?_)
            exact ⟨(), ha67.sub ⟨rfl, rfl, rfl, rfl, rfl, trivial⟩, rfl⟩
        rintro _ _ rfl a ha63
        obtain rfl := Option.some.inj ho36
        exact ⟨A25, ha63.sub ⟨rfl, rfl, rfl, rfl, rfl, trivial⟩, ⟨hH, hr38⟩⟩
      rintro A42 w39 ⟨hH43, hk40⟩ a ha41
      replace h13 := Sl.tr (Dw := Dw) h13 hk40
      replace hK := Tr.trans (Dw := Dw) hK hk40
      replace hr16 := Tr.trans (Dw := Dw) hr16 hk40
      replace hB := Nat.le_trans hB hk40.ex.size
      replace hA := hk40.new
      replace hH : Hp w.heap.size A42 w39 ([]) := hH43
      refine C_at (n := ⟨25, [], none⟩) (fun _ _ => rfl) ?_ ha41
      refine C_region ?_
      refine V_y (Y_addI rfl rfl) rfl rfl rfl ?_
      refine V_y (Y_move rfl) rfl rfl rfl ?_
      obtain rfl := Option.some.inj h28
      refine V_end (fun a ha69 => ?_)
      exact ⟨s37, hlt31, h29, ⟨A42, ha69.sub ⟨rfl, rfl, rfl, rfl, (congrArg (fun z => some (Value.int .i64 z)) (w64_succ hlt31 hn34)), trivial⟩, ⟨hH, hr16⟩⟩⟩
    · refine C_exit (fun a ha70 => ?_)
      exact ⟨(s23, A25), ha70.sub ⟨rfl, trivial⟩, ⟨(h32 (eq_of_dec hle30 hc35)).symm, hH, hr16⟩⟩
  rintro ⟨s15, A21⟩ w18 ⟨rfl, hH22, hk19⟩ a ha20
  rw [Lp.andThen_fin] at hm
  replace hK := Tr.trans (Dw := Dw) hK hk19
  replace hB := Nat.le_trans hB hk19.ex.size
  replace hA := hk19.new
  replace hH : Hp w.heap.size A21 w18 ([]) := hH22
  refine C_at (n := ⟨25, [], none⟩) (fun _ _ => rfl) ?_ ha20
  refine C_seq ?_
  refine C_region ?_
  refine V_y (Y_move rfl) rfl rfl rfl ?_
  refine V_y (Y_assign rfl) rfl rfl rfl ?_
  refine V_to (fun _ _ => rfl) ?_
  obtain rfl := Option.some.inj hm
  refine C_ret ?_
  try simp only [↓inBlock_ret, ↓then_ret]
  exact retQ rfl (Res.one Tryd.results34 rfl) ⟨rfl, hK.kp⟩

set_option maxRecDepth 4000 in
set_option maxHeartbeats 4000000 in
theorem portref2_ShownIn_c (w : World) {A : Nat → Prop} (hA : ∀ b, w.heap.size ≤ b → A b) (z : cal_Zone) (v_z : Value) (h_z : Sl A w v_z z.changes) (day : Int) (minute : Int) {r : (List Int)} (hm : portref2_ShownIn z day minute = some r) : Ret Tryd.prog 16 #[.agg #[.int .i64 z.offset, v_z], .int .i64 day, .int .i64 minute] w fun v w' => ∃ s0, v = s0 ∧ Ownd 3 w w' s0 r ∧ Kp Dw w w' := by
  unfold portref2_ShownIn at hm
  refine enter Tryd.func16 rfl Tryd.ntmps16 rfl ?_
  have hA0 := hA
  have hB := Nat.le_refl w.heap.size
  have hK : Tr Dw w.heap.size A w A w := Tr.refl (Dw := Dw) hA
  have hH : Hp w.heap.size A w [] := Hp.nil
  refine C_seq ?_
  refine C_region ?_
  refine V_box rfl rfl ?_
  intro b3 w4 h5
  have hk7 := h5.kp (Dw := Dw)
  have h6 : El (α := cal_Zone) A w4 b3 0 z := h5.el hA ⟨[.int .i64 z.offset], _, rfl, rfl, ⟨_, rfl, h_z⟩⟩
  have ht8 := Kp.tr (Dw := Dw) hk7 hA hB
  replace hH := Hp.kp (Dw := Dw) hH hk7
  replace h_z := Sl.tr (Dw := Dw) h_z ht8
  replace hK := Tr.trans (Dw := Dw) hK ht8
  replace hB := Nat.le_trans hB ht8.ex.size
  replace hA := ht8.new
  refine V_y (Y_assign rfl) rfl rfl rfl ?_
  refine V_to (fun _ _ => rfl) ?_
  refine C_seq ?_
  refine C_region ?_
  refine V_y (Y_assign rfl) rfl rfl rfl ?_
  refine V_to (fun _ _ => rfl) ?_
  refine C_seq ?_
  refine C_region ?_
  refine V_y (Y_move rfl) rfl rfl rfl ?_
  refine V_y (Y_mulI rfl rfl) rfl rfl rfl ?_
  refine V_y (Y_move rfl) rfl rfl rfl ?_
  refine V_y (Y_addI rfl rfl) rfl rfl rfl ?_
  refine V_y (Y_assign rfl) rfl rfl rfl ?_
  refine V_to (fun _ _ => rfl) ?_
  refine C_seq ?_
  refine C_seq ?_
  refine C_region ?_
  refine V_y (Y_move rfl) rfl rfl rfl ?_
  refine V_y (Y_subI rfl rfl) rfl rfl rfl ?_
  refine V_y (Y_max2 rfl rfl) rfl rfl rfl ?_
  refine V_y (Y_assign rfl) rfl rfl rfl ?_
  refine V_to (fun _ _ => rfl) ?_
  replace hH : Hp w.heap.size A w4 (obS (α := Int) 3 (.slice none 0 0) ([] : (List Int)) :: []) := Hp.addNil (α := Int) (e := 3) hH
  obtain ⟨o9, ho9, hm⟩ := Option.bind_eq_some_iff.1 hm
  refine C_cutG (ι := (((List Int) × Int) × Value × (Nat → Prop))) (fun ⟨s10, v16, A18⟩ => [(7, v16)]) (fun ⟨s10, v16, A18⟩ => fun w' => o9 = .fin s10 ∧ Hp w.heap.size A18 w' (obS (α := Int) 3 v16 s10.1 :: []) ∧ Tr Dw w.heap.size A w4 A18 w') ?_ ?_
  · refine C_block ?_
    refine C_while ho9 (fun s20 a w' => ∃ i : (Value × (Nat → Prop)), Has ⟨36, [], none⟩ a ([(3, .pointer (some ⟨b3, 0, none⟩)), (7, i.1), (8, .int .i64 (w64 ((w64 (day * 1440)) + minute))), (9, .int .i64 s20.2)]) ∧ Hp w.heap.size i.2 w' (obS (α := Int) 3 i.1 s20.1 :: []) ∧ Tr Dw w.heap.size A w4 i.2 w') (fun a ha => ⟨(.slice none 0 0, A), ha.sub ⟨rfl, rfl, rfl, rfl, trivial⟩, ⟨hH, Tr.refl (Dw := Dw) hA⟩⟩) ?_
    rintro K s20 a w21 ⟨⟨v22, A24⟩, ha78, hH25, hr11⟩ K32
    refine C_of ?_ ha78
    replace h6 := El.tr (Dw := Dw) h6 hr11
    replace hK := Tr.trans (Dw := Dw) hK hr11
    replace hB := Nat.le_trans hB hr11.ex.size
    replace hA := hr11.new
    replace hH : Hp w.heap.size A24 w21 (obS (α := Int) 3 v22 s20.1 :: []) := hH25
    obtain ⟨x26, h27, h28⟩ := K32
    refine C_seq ?_
    refine C_seq ?_
    refine C_region ?_
    refine V_y (Y_move rfl) rfl rfl rfl ?_
    refine V_y (Y_move rfl) rfl rfl rfl ?_
    refine V_y (Y_addI rfl rfl) rfl rfl rfl ?_
    refine V_y (Y_min2 rfl rfl) rfl rfl rfl ?_
    refine V_y (Y_leq rfl rfl) rfl rfl rfl ?_
    refine V_to (fun _ _ => rfl) ?_
    refine C_cond rfl (fun hc33 => ?_) (fun hc33 => ?_)
    · rw [if_pos hc33] at h27
      refine C_skip_to (fun _ _ => rfl) ?_
      refine C_seq ?_
      obtain ⟨s35, ho34, h27⟩ := Option.bind_eq_some_iff.1 h27
      refine C_cutG (ι := (Value × (Nat → Prop))) (fun ⟨v37, A42⟩ => [(3, .pointer (some ⟨b3, 0, none⟩)), (7, v37), (8, .int .i64 (w64 ((w64 (day * 1440)) + minute))), (9, .int .i64 s20.2)]) (fun ⟨v37, A42⟩ => fun w' => Hp w.heap.size A42 w' (obS (α := Int) 3 v37 s35 :: []) ∧ Tr Dw w.heap.size A24 w21 A42 w') ?_ ?_
      · have hr36 : Tr Dw w.heap.size A24 w21 A24 w21 := Tr.refl (Dw := Dw) hA
        refine C_block ?_
        refine C_seq ?_
        refine C_region ?_
        refine V_y (Y_move rfl) rfl rfl rfl ?_
        obtain ⟨v44, h46, h45⟩ := El_cal_Zone h6
        refine V_y (Y_loadA h46 Tryd.isAgg24 Tryd.sizeOf24 rfl) rfl rfl rfl ?_
        refine V_y (Y_move rfl) rfl rfl rfl ?_
        obtain ⟨x47, hx47, ho34⟩ := Option.bind_eq_some_iff.1 ho34
        refine V_call Tryd.call34 rfl rfl rfl rfl (portref2_OffsetIn_c (Dw := Dw) w21 hA z v44 h45 s20.2 hx47) ?_
        rintro _ w48 ⟨rfl, hk49⟩
        have ht50 := Kp.tr (Dw := Dw) hk49 hA hB
        replace hH := Hp.kp (Dw := Dw) hH hk49
        replace h6 := El.tr (Dw := Dw) h6 ht50
        replace h45 := Sl.tr (Dw := Dw) h45 ht50
        replace hK := Tr.trans (Dw := Dw) hK ht50
        replace hr11 := Tr.trans (Dw := Dw) hr11 ht50
        replace hr36 := Tr.trans (Dw := Dw) hr36 ht50
        replace hB := Nat.le_trans hB ht50.ex.size
        replace hA := ht50.new
        refine V_y (Y_addI rfl rfl) rfl rfl rfl ?_
        refine V_y (Y_move rfl) rfl rfl rfl ?_
        refine V_y (Y_eql rfl rfl) rfl rfl rfl ?_
        refine V_to (fun _ _ => rfl) ?_
        obtain ⟨s52, ho51, ho34⟩ := Option.bind_eq_some_iff.1 ho34
        refine C_cutG (ι := (Value × (Nat → Prop))) (fun ⟨v54, A59⟩ => [(3, .pointer (some ⟨b3, 0, none⟩)), (7, v54), (8, .int .i64 (w64 ((w64 (day * 1440)) + minute))), (9, .int .i64 s20.2)]) (fun ⟨v54, A59⟩ => fun w' => Hp w.heap.size A59 w' (obS (α := Int) 3 v54 s52 :: []) ∧ Tr Dw w.heap.size A24 w48 A59 w') ?_ ?_
        · have hr53 : Tr Dw w.heap.size A24 w48 A24 w48 := Tr.refl (Dw := Dw) hA
          refine C_cond rfl (fun hc61 => ?_) (fun hc61 => ?_)
          · rw [if_pos hc61] at ho51
            refine C_region ?_
            refine V_y (Y_move rfl) rfl rfl rfl ?_
            refine V_y (Y_move rfl) rfl rfl rfl ?_
            refine V_buildSlice (Dw := Dw) (l := ([s20.2] : List Int)) (len := 1) Tryd.underlying34 Tryd.sizeOf3 Tryd.zeroValue3 rfl (by with_unfolding_all rfl) (show (1 * 1 : Nat) ≠ 0 by decide) (show (1 * 1 : Nat) ≤ 2 ^ 24 by decide) hA ⟨[.int .i64 s20.2], _, rfl, rfl, rfl⟩ rfl rfl ?_
            intro v62 w63 hk65 h64
            have ht66 := Kp.tr (Dw := Dw) hk65 hA hB
            replace hH := Hp.kp (Dw := Dw) hH hk65
            replace h6 := El.tr (Dw := Dw) h6 ht66
            replace hK := Tr.trans (Dw := Dw) hK ht66
            replace hr11 := Tr.trans (Dw := Dw) hr11 ht66
            replace hr36 := Tr.trans (Dw := Dw) hr36 ht66
            replace hr53 := Tr.trans (Dw := Dw) hr53 ht66
            replace hB := Nat.le_trans hB ht66.ex.size
            replace hA := ht66.new
            obtain ⟨x67, hx67, ho51⟩ := Option.bind_eq_some_iff.1 ho51
            refine V_appendH (Dw := Dw) (e := 3) (v := v22) (l := s20.1) (ti := Tryd.t3) (bytes := 8) (lim := 17592186044416) hH (i := 0) rfl h64 hx67 Tryd.underlying34 Tryd_info3 rfl rfl rfl rfl (by decide) (by decide) (by decide) hB hA rfl rfl rfl ?_
            intro v68 w69 A70 hH71 ht72
            replace h6 := El.tr (Dw := Dw) h6 ht72
            replace h64 := Sl.tr (Dw := Dw) h64 ht72
            replace hK := Tr.trans (Dw := Dw) hK ht72
            replace hr11 := Tr.trans (Dw := Dw) hr11 ht72
            replace hr36 := Tr.trans (Dw := Dw) hr36 ht72
            replace hr53 := Tr.trans (Dw := Dw) hr53 ht72
            replace hB := Nat.le_trans hB ht72.ex.size
            replace hA := ht72.new
            replace hH : Hp w.heap.size A70 w69 (obS (α := Int) 3 v68 x67 :: []) := hH71
            refine V_y (Y_assign rfl) rfl rfl rfl ?_
            obtain rfl := Option.some.inj ho51
            refine V_end (fun a ha73 => ?_)
            exact ⟨(v68, A70), ha73.sub ⟨rfl, rfl, rfl, rfl, trivial⟩, ⟨hH, hr53⟩⟩
          · rw [if_neg (nt hc61)] at ho51
            obtain rfl := Option.some.inj ho51
            refine C_skip (fun a ha74 => ?_)
            exact ⟨(v22, A24), ha74.sub ⟨rfl, rfl, rfl, rfl, trivial⟩, ⟨hH, hr53⟩⟩
        rintro ⟨v54, A59⟩ w56 ⟨hH60, hk57⟩ a ha58
        replace h6 := El.tr (Dw := Dw) h6 hk57
        replace hK := Tr.trans (Dw := Dw) hK hk57
        replace hr11 := Tr.trans (Dw := Dw) hr11 hk57
        replace hr36 := Tr.trans (Dw := Dw) hr36 hk57
        replace hB := Nat.le_trans hB hk57.ex.size
        replace hA := hk57.new
        replace hH : Hp w.heap.size A59 w56 (obS (α := Int) 3 v54 s52 :: []) := hH60
        obtain rfl := Option.some.inj ho34
        exact ⟨(v54, A59), ha58.sub ⟨rfl, rfl, rfl, rfl, trivial⟩, ⟨hH, hr36⟩⟩
      rintro ⟨v37, A42⟩ w39 ⟨hH43, hk40⟩ a ha41
      replace h6 := El.tr (Dw := Dw) h6 hk40
      replace hK := Tr.trans (Dw := Dw) hK hk40
      replace hr11 := Tr.trans (Dw := Dw) hr11 hk40
      replace hB := Nat.le_trans hB hk40.ex.size
      replace hA := hk40.new
      replace hH : Hp w.heap.size A42 w39 (obS (α := Int) 3 v37 s35 :: []) := hH43
      refine C_at (n := ⟨36, [], none⟩) (fun _ _ => rfl) ?_ ha41
      refine C_region ?_
      refine V_y (Y_move rfl) rfl rfl rfl ?_
      refine V_y (Y_addI rfl rfl) rfl rfl rfl ?_
      refine V_y (Y_assign rfl) rfl rfl rfl ?_
      obtain rfl := Option.some.inj h27
      refine V_end (fun a ha76 => ?_)
      exact ⟨(s35, w64 (s20.2 + 1)), h28, ⟨(v37, A42), ha76.sub ⟨rfl, rfl, rfl, rfl, trivial⟩, ⟨hH, hr11⟩⟩⟩
    · rw [if_neg (nt hc33)] at h27
      obtain rfl := Option.some.inj h27
      refine C_exit (fun a ha77 => ?_)
      exact ⟨((s20.1, s20.2), v22, A24), ha77.sub ⟨rfl, trivial⟩, ⟨h28.symm, hH, hr11⟩⟩
  rintro ⟨s10, v16, A18⟩ w13 ⟨rfl, hH19, hk14⟩ a ha15
  rw [Lp.andThen_fin] at hm
  replace hK := Tr.trans (Dw := Dw) hK hk14
  replace hB := Nat.le_trans hB hk14.ex.size
  replace hA := hk14.new
  replace hH : Hp w.heap.size A18 w13 (obS (α := Int) 3 v16 s10.1 :: []) := hH19
  refine C_at (n := ⟨36, [], none⟩) (fun _ _ => rfl) ?_ ha15
  refine C_seq ?_
  refine C_region ?_
  refine V_y (Y_move rfl) rfl rfl rfl ?_
  refine V_y (Y_assign rfl) rfl rfl rfl ?_
  refine V_to (fun _ _ => rfl) ?_
  obtain rfl := Option.some.inj hm
  refine C_ret ?_
  try simp only [↓inBlock_ret, ↓then_ret]
  exact retQ rfl (Res.one Tryd.results16 rfl) ⟨v16, rfl, (Hp.ownd hH (i := 0) rfl), hK.kp⟩

set_option maxRecDepth 4000 in
set_option maxHeartbeats 4000000 in
theorem portref2_ReadMomentOf_c (w : World) {A : Nat → Prop} (hA : ∀ b, w.heap.size ≤ b → A b) (hT : Fz Tryd_FR A w) (z : cal_Zone) (v_z : Value) (h_z : Sl A w v_z z.changes) (s : ByteArray) {r : (Int × Int)} (hm : portref2_ReadMomentOf z s = some r) : Ret Tryd.prog 5 #[.agg #[.int .i64 z.offset, v_z], .string s] w fun v w' => v = .tuple #[.int .i64 r.1, .int .i64 r.2] ∧ Kp False w w' := by
  unfold portref2_ReadMomentOf at hm
  refine enter Tryd.func5 rfl Tryd.ntmps5 rfl ?_
  have hA0 := hA
  have hB := Nat.le_refl w.heap.size
  have hK : Tr False w.heap.size A w A w := Tr.refl (Dw := False) hA
  have hH : Hp w.heap.size A w [] := Hp.nil
  refine C_seq ?_
  refine C_region ?_
  refine V_box rfl rfl ?_
  intro b3 w4 h5
  have hk7 := h5.kp (Dw := False)
  have h6 : El (α := cal_Zone) A w4 b3 0 z := h5.el hA ⟨[.int .i64 z.offset], _, rfl, rfl, ⟨_, rfl, h_z⟩⟩
  have ht8 := Kp.tr (Dw := False) hk7 hA hB
  replace hH := Hp.kp (Dw := False) hH hk7
  replace h_z := Sl.tr (Dw := False) h_z ht8
  replace hK := Tr.trans (Dw := False) hK ht8
  replace hB := Nat.le_trans hB ht8.ex.size
  replace hA := ht8.new
  refine V_y (Y_assign rfl) rfl rfl rfl ?_
  refine V_y (Y_assign rfl) rfl rfl rfl ?_
  refine V_to (fun _ _ => rfl) ?_
  refine C_seq ?_
  refine C_seq ?_
  refine C_region ?_
  obtain ⟨v9, h11, h10⟩ := El_cal_Zone h6
  refine V_y (Y_loadA h11 Tryd.isAgg24 Tryd.sizeOf24 rfl) rfl rfl rfl ?_
  obtain ⟨x12, hx12, hm⟩ := Option.bind_eq_some_iff.1 hm
  refine V_call Tryd.call11 rfl rfl rfl rfl (portref2_ZoneFault_c (Dw := False) w4 hA z v9 h10 hx12) ?_
  rintro _ w13 ⟨rfl, hk14⟩
  have ht15 := Kp.tr (Dw := False) hk14 hA hB
  replace hH := Hp.kp (Dw := False) hH hk14
  replace h6 := El.tr (Dw := False) h6 ht15
  replace h10 := Sl.tr (Dw := False) h10 ht15
  replace hK := Tr.trans (Dw := False) hK ht15
  replace hB := Nat.le_trans hB ht15.ex.size
  replace hA := ht15.new
  refine V_y (Y_assign rfl) rfl rfl rfl ?_
  refine V_to (fun _ _ => rfl) ?_
  refine C_seq ?_
  refine C_region ?_
  refine V_y (Y_move rfl) rfl rfl rfl ?_
  refine V_y (Y_neq rfl rfl) rfl rfl rfl ?_
  refine V_to (fun _ _ => rfl) ?_
  refine C_cond rfl (fun hc16 => ?_) (fun hc16 => ?_)
  · rw [if_pos hc16] at hm
    refine C_seq ?_
    refine C_region ?_
    refine V_y (Y_move rfl) rfl rfl rfl ?_
    refine V_y (Y_assign rfl) rfl rfl rfl ?_
    refine V_y (Y_assign rfl) rfl rfl rfl ?_
    refine V_to (fun _ _ => rfl) ?_
    obtain rfl := Option.some.inj hm
    refine C_ret ?_
    try simp only [↓inBlock_ret, ↓then_ret]
    exact retQ rfl (Res.two Tryd.results5 rfl rfl) ⟨rfl, hK.kp⟩
  · rw [if_neg (nt hc16)] at hm
    refine C_skip_to (fun _ _ => rfl) ?_
    refine C_seq ?_
    refine C_region ?_
    refine V_y (Y_move rfl) rfl rfl rfl ?_
    obtain ⟨x17, hx17, hm⟩ := Option.bind_eq_some_iff.1 hm
    refine V_call Tryd.call7 rfl rfl rfl rfl (strings_Cut_c (Dw := False) w13 hA s (⟨#[46]⟩ : ByteArray) hx17) ?_
    rintro _ w18 ⟨rfl, hk19⟩
    have ht20 := Kp.tr (Dw := False) hk19 hA hB
    replace hH := Hp.kp (Dw := False) hH hk19
    replace h6 := El.tr (Dw := False) h6 ht20
    replace hK := Tr.trans (Dw := False) hK ht20
    replace hB := Nat.le_trans hB ht20.ex.size
    replace hA := ht20.new
    refine V_y (Y_move rfl) rfl rfl rfl ?_
    refine V_y (Y_extract rfl rfl) rfl rfl rfl ?_
    refine V_y (Y_extract rfl rfl) rfl rfl rfl ?_
    refine V_y (Y_extract rfl rfl) rfl rfl rfl ?_
    refine V_y (Y_assign rfl) rfl rfl rfl ?_
    refine V_y (Y_assign rfl) rfl rfl rfl ?_
    refine V_y (Y_assign rfl) rfl rfl rfl ?_
    refine V_to (fun _ _ => rfl) ?_
    refine C_seq ?_
    refine C_region ?_
    refine V_y (Y_move rfl) rfl rfl rfl ?_
    obtain ⟨x21, hx21, hm⟩ := Option.bind_eq_some_iff.1 hm
    refine V_call Tryd.call12 rfl rfl rfl rfl (portref2_number_c w18 hA (Fz.tr (Dw := False) hT hK) x17.1 4 hx21) ?_
    rintro _ w22 ⟨rfl, hk23⟩
    have ht24 := Kp.tr (Dw := False) hk23 hA hB
    replace hH := Hp.kp (Dw := False) hH hk23
    replace h6 := El.tr (Dw := False) h6 ht24
    replace hK := Tr.trans (Dw := False) hK ht24
    replace hB := Nat.le_trans hB ht24.ex.size
    replace hA := ht24.new
    refine V_y (Y_move rfl) rfl rfl rfl ?_
    refine V_y (Y_extract rfl rfl) rfl rfl rfl ?_
    refine V_y (Y_extract rfl rfl) rfl rfl rfl ?_
    refine V_y (Y_assign rfl) rfl rfl rfl ?_
    refine V_y (Y_assign rfl) rfl rfl rfl ?_
    refine V_to (fun _ _ => rfl) ?_
    refine C_seq ?_
    refine C_seq ?_
    refine C_region_q (Dw := False) Tryd_mixed (by kernel_rfl) ?_
    refine VQ_y (fun w' hw' => Y_move rfl) rfl rfl rfl ?_
    refine VQ_y (fun w' hw' => Y_not rfl) rfl rfl rfl ?_
    refine VQ_y (fun w' hw' => Y_move rfl) rfl rfl rfl ?_
    refine VQ_cut 3 (fun _ : Unit => [(2, .pointer (some ⟨b3, 0, none⟩)), (8, .string x17.2.1), (10, .int .i64 x21.1), (39, .bool ((!x17.2.2) || (!x21.2)))]) (fun _ => True) ?_ ?_
    · simp only [List.take, List.drop]
      rcases Bool.eq_false_or_eq_true (!x17.2.2) with hc25 | hc25
      · refine VQ_gn rfl rfl rfl hc25 rfl rfl rfl ?_
        refine VQ_gn rfl rfl rfl hc25 rfl rfl rfl ?_
        refine VQ_y (fun _ _ => Y_pick_te rfl hc25 rfl) rfl rfl rfl ?_
        exact VQ_end fun a ha => ⟨(), ha.sub ⟨rfl, rfl, rfl, (by rw [hc25]; rfl), trivial⟩, trivial⟩
      · refine VQ_ge rfl rfl rfl hc25 ?_
        refine VQ_y (fun w' hw' => Y_move rfl) rfl rfl rfl ?_
        refine VQ_ge rfl rfl rfl hc25 ?_
        refine VQ_y (fun w' hw' => Y_not rfl) rfl rfl rfl ?_
        refine VQ_y (fun _ _ => Y_pick_fe rfl hc25 rfl) rfl rfl rfl ?_
        exact VQ_end fun a ha => ⟨(), ha.sub ⟨rfl, rfl, rfl, (by rw [hc25]; rfl), trivial⟩, trivial⟩
    simp only [List.take, List.drop]
    rintro _ _
    refine VQ_y (fun w' hw' => Y_move rfl) rfl rfl rfl ?_
    refine VQ_cut 4 (fun _ : Unit => [(2, .pointer (some ⟨b3, 0, none⟩)), (8, .string x17.2.1), (10, .int .i64 x21.1), (44, .bool (((!x17.2.2) || (!x21.2)) || (decide ((x17.2.1.size : Int) < 5))))]) (fun _ => True) ?_ ?_
    · simp only [List.take, List.drop]
      rcases Bool.eq_false_or_eq_true (((!x17.2.2) || (!x21.2))) with hc27 | hc27
      · refine VQ_gn rfl rfl rfl hc27 rfl rfl rfl ?_
        refine VQ_gn rfl rfl rfl hc27 rfl rfl rfl ?_
        refine VQ_gn rfl rfl rfl hc27 rfl rfl rfl ?_
        refine VQ_y (fun _ _ => Y_pick_te rfl hc27 rfl) rfl rfl rfl ?_
        exact VQ_end fun a ha => ⟨(), ha.sub ⟨rfl, rfl, rfl, (by rw [hc27]; rfl), trivial⟩, trivial⟩
      · refine VQ_ge rfl rfl rfl hc27 ?_
        refine VQ_y (fun w' hw' => Y_move rfl) rfl rfl rfl ?_
        refine VQ_ge rfl rfl rfl hc27 ?_
        refine VQ_y (fun w' hw' => Y_lenStr rfl Tryd.underlying9 rfl) rfl rfl rfl ?_
        refine VQ_ge rfl rfl rfl hc27 ?_
        refine VQ_y (fun w' hw' => Y_lss rfl rfl) rfl rfl rfl ?_
        refine VQ_y (fun _ _ => Y_pick_fe rfl hc27 rfl) rfl rfl rfl ?_
        exact VQ_end fun a ha => ⟨(), ha.sub ⟨rfl, rfl, rfl, (by rw [hc27]; rfl), trivial⟩, trivial⟩
    simp only [List.take, List.drop]
    rintro _ _
    refine VQ_y (fun w' hw' => Y_move rfl) rfl rfl rfl ?_
    obtain ⟨s30, hs30, hm⟩ := Option.bind_eq_some_iff.1 hm
    refine VQ_cut 4 (fun _ : Unit => [(2, .pointer (some ⟨b3, 0, none⟩)), (8, .string x17.2.1), (10, .int .i64 x21.1), (49, .bool s30)]) (fun _ => True) ?_ ?_
    · simp only [List.take, List.drop]
      rcases Bool.eq_false_or_eq_true ((((!x17.2.2) || (!x21.2)) || (decide ((x17.2.1.size : Int) < 5)))) with hc29 | hc29
      · rw [if_pos hc29] at hs30
        refine VQ_gn rfl rfl rfl hc29 rfl rfl rfl ?_
        refine VQ_gn rfl rfl rfl hc29 rfl rfl rfl ?_
        refine VQ_gn rfl rfl rfl hc29 rfl rfl rfl ?_
        refine VQ_y (fun _ _ => Y_pick_te rfl hc29 rfl) rfl rfl rfl ?_
        obtain rfl := Option.some.inj hs30
        exact VQ_end fun a ha => ⟨(), ha.sub ⟨rfl, rfl, rfl, rfl, trivial⟩, trivial⟩
      · rw [if_neg (nt hc29)] at hs30
        refine VQ_ge rfl rfl rfl hc29 ?_
        refine VQ_y (fun w' hw' => Y_move rfl) rfl rfl rfl ?_
        refine VQ_ge rfl rfl rfl hc29 ?_
        obtain ⟨x31, hx31, hs30⟩ := Option.bind_eq_some_iff.1 hs30
        refine VQ_y (fun w' hw' => Y_indexS hx31 Tryd.underlying9 rfl rfl) rfl rfl rfl ?_
        refine VQ_ge rfl rfl rfl hc29 ?_
        refine VQ_y (fun w' hw' => Y_neq rfl rfl) rfl rfl rfl ?_
        refine VQ_y (fun _ _ => Y_pick_fe rfl hc29 rfl) rfl rfl rfl ?_
        obtain rfl := Option.some.inj hs30
        exact VQ_end fun a ha => ⟨(), ha.sub ⟨rfl, rfl, rfl, rfl, trivial⟩, trivial⟩
    simp only [List.take, List.drop]
    rintro _ _
    refine VQ_y (fun w' hw' => Y_move rfl) rfl rfl rfl ?_
    obtain ⟨s33, hs33, hm⟩ := Option.bind_eq_some_iff.1 hm
    refine VQ_cut 8 (fun _ : Unit => [(2, .pointer (some ⟨b3, 0, none⟩)), (8, .string x17.2.1), (10, .int .i64 x21.1), (58, .bool s33)]) (fun _ => True) ?_ ?_
    · simp only [List.take, List.drop]
      rcases Bool.eq_false_or_eq_true (s30) with hc32 | hc32
      · rw [if_pos hc32] at hs33
        refine VQ_gn rfl rfl rfl hc32 rfl rfl rfl ?_
        refine VQ_gn rfl rfl rfl hc32 rfl rfl rfl ?_
        refine VQ_gn rfl rfl rfl hc32 rfl rfl rfl ?_
        refine VQ_gn rfl rfl rfl hc32 rfl rfl rfl ?_
        refine VQ_gn rfl rfl rfl hc32 rfl rfl rfl ?_
        refine VQ_gn rfl rfl rfl hc32 rfl rfl rfl ?_
        refine VQ_gn rfl rfl rfl hc32 rfl rfl rfl ?_
        refine VQ_y (fun _ _ => Y_pick_te rfl hc32 rfl) rfl rfl rfl ?_
        obtain rfl := Option.some.inj hs33
        exact VQ_end fun a ha => ⟨(), ha.sub ⟨rfl, rfl, rfl, rfl, trivial⟩, trivial⟩
      · rw [if_neg (nt hc32)] at hs33
        refine VQ_ge rfl rfl rfl hc32 ?_
        refine VQ_y (fun w' hw' => Y_move rfl) rfl rfl rfl ?_
        refine VQ_ge rfl rfl rfl hc32 ?_
        obtain ⟨x34, hx34, hs33⟩ := Option.bind_eq_some_iff.1 hs33
        refine VQ_y (fun w' hw' => Y_sliceSH hx34 Tryd.underlying9 rfl rfl) rfl rfl rfl ?_
        refine VQ_ge rfl rfl rfl hc32 ?_
        refine VQ_y (fun w' hw' => Y_move rfl) rfl rfl rfl ?_
        refine VQ_ge rfl rfl rfl hc32 ?_
        obtain ⟨x35, hx35, hs33⟩ := Option.bind_eq_some_iff.1 hs33
        refine VQ_y (fun w' hw' => Y_sliceSLH hx35 Tryd.underlying9 rfl rfl rfl) rfl rfl rfl ?_
        refine VQ_ge rfl rfl rfl hc32 ?_
        obtain ⟨x36, hx36, hs33⟩ := Option.bind_eq_some_iff.1 hs33
        refine VQ_y (fun w' hw' => Y_sadd hx36 rfl rfl) rfl rfl rfl ?_
        refine VQ_ge rfl rfl rfl hc32 ?_
        obtain ⟨x37, hx37, hs33⟩ := Option.bind_eq_some_iff.1 hs33
        refine VQ_call (.string x37) Tryd.call13 rfl rfl rfl rfl (fun w' hw' => (strings_Trim_c w' (fun b hb => hA b (Nat.le_trans hw'.size hb)) x36 (⟨#[48, 49, 50, 51, 52, 53, 54, 55, 56, 57]⟩ : ByteArray) hx37).mono (fun _ _ h => ⟨h.1, Kp.trans (Dw := False) hw' h.2⟩)) ?_
        refine VQ_ge rfl rfl rfl hc32 ?_
        refine VQ_y (fun w' hw' => Y_sneq rfl rfl) rfl rfl rfl ?_
        refine VQ_y (fun _ _ => Y_pick_fe rfl hc32 rfl) rfl rfl rfl ?_
        obtain rfl := Option.some.inj hs33
        exact VQ_end fun a ha => ⟨(), ha.sub ⟨rfl, rfl, rfl, rfl, trivial⟩, trivial⟩
    simp only [List.take, List.drop]
    rintro _ _
    refine VQ_to (fun _ _ => rfl) (fun w38 hk39 => ?_)
    have ht40 := Kp.tr (Dw := False) hk39 hA hB
    replace hH := Hp.kp (Dw := False) hH hk39
    replace h6 := El.tr (Dw := False) h6 ht40
    replace hK := Tr.trans (Dw := False) hK ht40
    replace hB := Nat.le_trans hB ht40.ex.size
    replace hA := ht40.new
    refine C_cond rfl (fun hc41 => ?_) (fun hc41 => ?_)
    · rw [if_pos hc41] at hm
      refine C_seq ?_
      refine C_region ?_
      refine V_y (Y_assign rfl) rfl rfl rfl ?_
      refine V_y (Y_assign rfl) rfl rfl rfl ?_
      refine V_to (fun _ _ => rfl) ?_
      obtain rfl := Option.some.inj hm
      refine C_ret ?_
      try simp only [↓inBlock_ret, ↓then_ret]
      exact retQ rfl (Res.two Tryd.results5 rfl rfl) ⟨rfl, hK.kp⟩
    · rw [if_neg (nt hc41)] at hm
      refine C_skip_to (fun _ _ => rfl) ?_
      refine C_seq ?_
      refine C_region ?_
      refine V_y (Y_move rfl) rfl rfl rfl ?_
      obtain ⟨x42, hx42, hm⟩ := Option.bind_eq_some_iff.1 hm
      refine V_y (Y_sliceSH hx42 Tryd.underlying9 rfl rfl) rfl rfl rfl ?_
      obtain ⟨x43, hx43, hm⟩ := Option.bind_eq_some_iff.1 hm
      refine V_call Tryd.call14 rfl rfl rfl rfl (strconv_Atoi_c w38 hA ⟨((Fz.tr (Dw := False) hT hK)).2.1, ((Fz.tr (Dw := False) hT hK)).2.2⟩ x42 hx43) ?_
      rintro _ w46 ⟨v44, rfl, h45, hk47⟩
      have ht48 := Kp.tr (Dw := False) hk47 hA hB
      replace hH := Hp.kp (Dw := False) hH hk47
      replace h6 := El.tr (Dw := False) h6 ht48
      replace hK := Tr.trans (Dw := False) hK ht48
      replace hB := Nat.le_trans hB ht48.ex.size
      replace hA := ht48.new
      refine V_y (Y_move rfl) rfl rfl rfl ?_
      refine V_y (Y_extract rfl rfl) rfl rfl rfl ?_
      refine V_y (Y_extract rfl rfl) rfl rfl rfl ?_
      refine V_y (Y_assign rfl) rfl rfl rfl ?_
      refine V_y (Y_assign rfl) rfl rfl rfl ?_
      refine V_to (fun _ _ => rfl) ?_
      refine C_seq ?_
      refine C_region ?_
      refine V_y (Y_move rfl) rfl rfl rfl ?_
      obtain ⟨x49, hx49, hm⟩ := Option.bind_eq_some_iff.1 hm
      refine V_y (Y_sliceSLH hx49 Tryd.underlying9 rfl rfl rfl) rfl rfl rfl ?_
      obtain ⟨x50, hx50, hm⟩ := Option.bind_eq_some_iff.1 hm
      refine V_call Tryd.call14 rfl rfl rfl rfl (strconv_Atoi_c w46 hA ⟨((Fz.tr (Dw := False) hT hK)).2.1, ((Fz.tr (Dw := False) hT hK)).2.2⟩ x49 hx50) ?_
      rintro _ w53 ⟨v51, rfl, h52, hk54⟩
      have ht55 := Kp.tr (Dw := False) hk54 hA hB
      replace hH := Hp.kp (Dw := False) hH hk54
      replace h6 := El.tr (Dw := False) h6 ht55
      replace hK := Tr.trans (Dw := False) hK ht55
      replace hB := Nat.le_trans hB ht55.ex.size
      replace hA := ht55.new
      refine V_y (Y_move rfl) rfl rfl rfl ?_
      refine V_y (Y_extract rfl rfl) rfl rfl rfl ?_
      refine V_y (Y_extract rfl rfl) rfl rfl rfl ?_
      refine V_y (Y_assign rfl) rfl rfl rfl ?_
      refine V_y (Y_assign rfl) rfl rfl rfl ?_
      refine V_to (fun _ _ => rfl) ?_
      refine C_seq ?_
      refine C_region ?_
      refine V_y (Y_assign rfl) rfl rfl rfl ?_
      refine V_to (fun _ _ => rfl) ?_
      refine C_seq ?_
      refine C_seq ?_
      refine C_region ?_
      refine V_y (Y_move rfl) rfl rfl rfl ?_
      refine V_y (Y_lenStr rfl Tryd.underlying9 rfl) rfl rfl rfl ?_
      refine V_y (Y_gtr rfl rfl) rfl rfl rfl ?_
      refine V_to (fun _ _ => rfl) ?_
      obtain ⟨o56, ho56, hm⟩ := Option.bind_eq_some_iff.1 hm
      refine C_cutG (ι := (Int × (Nat → Prop))) (fun ⟨s57, A62⟩ => [(2, .pointer (some ⟨b3, 0, none⟩)), (10, .int .i64 x21.1), (12, .int .i64 x43.1), (14, .int .i64 x50.1), (16, .int .i64 s57)]) (fun ⟨s57, A62⟩ => fun w' => o56 = .fin s57 ∧ Hp w.heap.size A62 w' ([]) ∧ Tr False w.heap.size A w53 A62 w') ?_ ?_
      · have hr58 : Tr False w.heap.size A w53 A w53 := Tr.refl (Dw := False) hA
        refine C_cond rfl (fun hc64 => ?_) (fun hc64 => ?_)
        · rw [if_pos hc64] at ho56
          refine C_seq ?_
          refine C_seq ?_
          obtain ⟨s66, ho65, ho56⟩ := Option.bind_eq_some_iff.1 ho56
          refine C_cutG (ι := (Nat → Prop)) (fun (A71 : (Nat → Prop)) => [(2, .pointer (some ⟨b3, 0, none⟩)), (8, .string x17.2.1), (10, .int .i64 x21.1), (12, .int .i64 x43.1), (14, .int .i64 x50.1), (82, .bool s66)]) (fun (A71 : (Nat → Prop)) => fun w' => Hp w.heap.size A71 w' ([]) ∧ Tr False w.heap.size A w53 A71 w') ?_ ?_
          · have hr67 : Tr False w.heap.size A w53 A w53 := Tr.refl (Dw := False) hA
            refine C_region ?_
            refine V_y (Y_move rfl) rfl rfl rfl ?_
            obtain ⟨x73, hx73, ho65⟩ := Option.bind_eq_some_iff.1 ho65
            refine V_y (Y_indexS hx73 Tryd.underlying9 rfl rfl) rfl rfl rfl ?_
            refine V_y (Y_neq rfl rfl) rfl rfl rfl ?_
            refine V_y (Y_move rfl) rfl rfl rfl ?_
            rcases Bool.eq_false_or_eq_true ((x73.toNat : Int) != 47) with hc74 | hc74
            · rw [if_pos hc74] at ho65
              refine V_gn rfl rfl rfl hc74 rfl rfl rfl ?_
              refine V_gn rfl rfl rfl hc74 rfl rfl rfl ?_
              refine V_gn rfl rfl rfl hc74 rfl rfl rfl ?_
              refine V_gn rfl rfl rfl hc74 rfl rfl rfl ?_
              refine V_y (Y_pick_te rfl hc74 rfl) rfl rfl rfl ?_
              obtain rfl := Option.some.inj ho65
              refine V_end (fun a ha75 => ?_)
              exact ⟨A, ha75.sub ⟨rfl, rfl, rfl, rfl, rfl, rfl, trivial⟩, ⟨hH, hr67⟩⟩
            · rw [if_neg (nt hc74)] at ho65
              refine V_ge rfl rfl rfl hc74 ?_
              refine V_y (Y_move rfl) rfl rfl rfl ?_
              refine V_ge rfl rfl rfl hc74 ?_
              obtain ⟨x76, hx76, ho65⟩ := Option.bind_eq_some_iff.1 ho65
              refine V_y (Y_sliceSL hx76 Tryd.underlying9 rfl rfl) rfl rfl rfl ?_
              refine V_ge rfl rfl rfl hc74 ?_
              obtain ⟨x77, hx77, ho65⟩ := Option.bind_eq_some_iff.1 ho65
              refine V_call Tryd.call15 rfl rfl rfl rfl (portref2_digits_c w53 hA x76 2 hx77) ?_
              rintro _ w78 ⟨rfl, hk79⟩
              have ht80 := Kp.tr (Dw := False) hk79 hA hB
              replace hH := Hp.kp (Dw := False) hH hk79
              replace h6 := El.tr (Dw := False) h6 ht80
              replace hK := Tr.trans (Dw := False) hK ht80
              replace hr58 := Tr.trans (Dw := False) hr58 ht80
              replace hr67 := Tr.trans (Dw := False) hr67 ht80
              replace hB := Nat.le_trans hB ht80.ex.size
              replace hA := ht80.new
              refine V_ge rfl rfl rfl hc74 ?_
              refine V_y (Y_not rfl) rfl rfl rfl ?_
              refine V_y (Y_pick_fe rfl hc74 rfl) rfl rfl rfl ?_
              obtain rfl := Option.some.inj ho65
              refine V_end (fun a ha81 => ?_)
              exact ⟨A, ha81.sub ⟨rfl, rfl, rfl, rfl, rfl, rfl, trivial⟩, ⟨hH, hr67⟩⟩
          rintro A71 w68 ⟨hH72, hk69⟩ a ha70
          replace h6 := El.tr (Dw := False) h6 hk69
          replace hK := Tr.trans (Dw := False) hK hk69
          replace hr58 := Tr.trans (Dw := False) hr58 hk69
          replace hB := Nat.le_trans hB hk69.ex.size
          replace hA := hk69.new
          replace hH : Hp w.heap.size A71 w68 ([]) := hH72
          refine C_at (n := ⟨113, [], none⟩) (fun _ _ => rfl) ?_ ha70
          refine C_cond rfl (fun hc82 => ?_) (fun hc82 => ?_)
          · rw [if_pos hc82] at ho56
            refine C_seq ?_
            refine C_region ?_
            refine V_y (Y_assign rfl) rfl rfl rfl ?_
            refine V_y (Y_assign rfl) rfl rfl rfl ?_
            refine V_to (fun _ _ => rfl) ?_
            obtain rfl := Option.some.inj ho56
            rw [Lp.andThen_rt] at hm
            obtain rfl := Option.some.inj hm
            refine C_ret ?_
            try simp only [↓inBlock_ret, ↓then_ret]
            exact retQ rfl (Res.two Tryd.results5 rfl rfl) ⟨rfl, hK.kp⟩
          · rw [if_neg (nt hc82)] at ho56
            refine C_skip_to (fun _ _ => rfl) ?_
            refine C_seq ?_
            refine C_region ?_
            refine V_y (Y_move rfl) rfl rfl rfl ?_
            obtain ⟨x83, hx83, ho56⟩ := Option.bind_eq_some_iff.1 ho56
            refine V_y (Y_sliceSL hx83 Tryd.underlying9 rfl rfl) rfl rfl rfl ?_
            obtain ⟨x84, hx84, ho56⟩ := Option.bind_eq_some_iff.1 ho56
            refine V_call Tryd.call14 rfl rfl rfl rfl (strconv_Atoi_c w68 hA ⟨((Fz.tr (Dw := False) hT hK)).2.1, ((Fz.tr (Dw := False) hT hK)).2.2⟩ x83 hx84) ?_
            rintro _ w87 ⟨v85, rfl, h86, hk88⟩
            have ht89 := Kp.tr (Dw := False) hk88 hA hB
            replace hH := Hp.kp (Dw := False) hH hk88
            replace h6 := El.tr (Dw := False) h6 ht89
            replace hK := Tr.trans (Dw := False) hK ht89
            replace hr58 := Tr.trans (Dw := False) hr58 ht89
            replace hB := Nat.le_trans hB ht89.ex.size
            replace hA := ht89.new
            refine V_y (Y_move rfl) rfl rfl rfl ?_
            refine V_y (Y_extract rfl rfl) rfl rfl rfl ?_
            refine V_y (Y_extract rfl rfl) rfl rfl rfl ?_
            refine V_y (Y_assign rfl) rfl rfl rfl ?_
            refine V_to (fun _ _ => rfl) ?_
            refine C_seq ?_
            refine C_region ?_
            refine V_y (Y_move rfl) rfl rfl rfl ?_
            refine V_y (Y_lss rfl rfl) rfl rfl rfl ?_
            refine V_to (fun _ _ => rfl) ?_
            refine C_cond rfl (fun hc90 => ?_) (fun hc90 => ?_)
            · rw [if_pos hc90] at ho56
              refine C_seq ?_
              refine C_region ?_
              refine V_y (Y_assign rfl) rfl rfl rfl ?_
              refine V_y (Y_assign rfl) rfl rfl rfl ?_
              refine V_to (fun _ _ => rfl) ?_
              obtain rfl := Option.some.inj ho56
              rw [Lp.andThen_rt] at hm
              obtain rfl := Option.some.inj hm
              refine C_ret ?_
              try simp only [↓inBlock_ret, ↓then_ret]
              exact retQ rfl (Res.two Tryd.results5 rfl rfl) ⟨rfl, hK.kp⟩
            · rw [if_neg (nt hc90)] at ho56
              obtain rfl := Option.some.inj ho56
              refine C_skip (fun a ha91 => ?_)
              exact ⟨(x84.1, A71), ha91.sub ⟨rfl, rfl, rfl, rfl, rfl, trivial⟩, ⟨rfl, hH, hr58⟩⟩
        · rw [if_neg (nt hc64)] at ho56
          obtain rfl := Option.some.inj ho56
          refine C_skip (fun a ha92 => ?_)
          exact ⟨(1, A), ha92.sub ⟨rfl, rfl, rfl, rfl, rfl, trivial⟩, ⟨rfl, hH, hr58⟩⟩
      rintro ⟨s57, A62⟩ w59 ⟨rfl, hH63, hk60⟩ a ha61
      rw [Lp.andThen_fin] at hm
      replace h6 := El.tr (Dw := False) h6 hk60
      replace hK := Tr.trans (Dw := False) hK hk60
      replace hB := Nat.le_trans hB hk60.ex.size
      replace hA := hk60.new
      replace hH : Hp w.heap.size A62 w59 ([]) := hH63
      refine C_at (n := ⟨113, [], none⟩) (fun _ _ => rfl) ?_ ha61
      refine C_seq ?_
      refine C_seq ?_
      refine C_region ?_
      refine V_y (Y_move rfl) rfl rfl rfl ?_
      refine V_y (Y_gtr rfl rfl) rfl rfl rfl ?_
      refine V_y (Y_move rfl) rfl rfl rfl ?_
      refine V_cut 3 (fun _ : Unit => [(2, .pointer (some ⟨b3, 0, none⟩)), (10, .int .i64 x21.1), (12, .int .i64 x43.1), (14, .int .i64 x50.1), (16, .int .i64 s57), (96, .bool ((decide ((23 : Int) < x43.1)) || (decide ((59 : Int) < x50.1))))]) (fun _ w' => w59 = w') ?_ ?_
      · simp only [List.take, List.drop]
        rcases Bool.eq_false_or_eq_true (decide ((23 : Int) < x43.1)) with hc93 | hc93
        · refine V_gn rfl rfl rfl hc93 rfl rfl rfl ?_
          refine V_gn rfl rfl rfl hc93 rfl rfl rfl ?_
          refine V_y (Y_pick_te rfl hc93 rfl) rfl rfl rfl ?_
          exact V_end fun a ha => ⟨(), ha.sub ⟨rfl, rfl, rfl, rfl, rfl, (by rw [hc93]; rfl), trivial⟩, rfl⟩
        · refine V_ge rfl rfl rfl hc93 ?_
          refine V_y (Y_move rfl) rfl rfl rfl ?_
          refine V_ge rfl rfl rfl hc93 ?_
          refine V_y (Y_gtr rfl rfl) rfl rfl rfl ?_
          refine V_y (Y_pick_fe rfl hc93 rfl) rfl rfl rfl ?_
          exact V_end fun a ha => ⟨(), ha.sub ⟨rfl, rfl, rfl, rfl, rfl, (by rw [hc93]; rfl), trivial⟩, rfl⟩
      simp only [List.take, List.drop]
      rintro _ _ rfl
      refine V_to (fun _ _ => rfl) ?_
      refine C_cond rfl (fun hc95 => ?_) (fun hc95 => ?_)
      · rw [if_pos hc95] at hm
        refine C_seq ?_
        refine C_region ?_
        refine V_y (Y_assign rfl) rfl rfl rfl ?_
        refine V_y (Y_assign rfl) rfl rfl rfl ?_
        refine V_to (fun _ _ => rfl) ?_
        obtain rfl := Option.some.inj hm
        refine C_ret ?_
        try simp only [↓inBlock_ret, ↓then_ret]
        exact retQ rfl (Res.two Tryd.results5 rfl rfl) ⟨rfl, hK.kp⟩
      · rw [if_neg (nt hc95)] at hm
        refine C_skip_to (fun _ _ => rfl) ?_
        refine C_seq ?_
        refine C_region ?_
        obtain ⟨v96, h98, h97⟩ := El_cal_Zone h6
        refine V_y (Y_loadA h98 Tryd.isAgg24 Tryd.sizeOf24 rfl) rfl rfl rfl ?_
        refine V_y (Y_move rfl) rfl rfl rfl ?_
        refine V_y (Y_move rfl) rfl rfl rfl ?_
        refine V_y (Y_mulI rfl rfl) rfl rfl rfl ?_
        refine V_y (Y_move rfl) rfl rfl rfl ?_
        refine V_y (Y_addI rfl rfl) rfl rfl rfl ?_
        obtain ⟨x99, hx99, hm⟩ := Option.bind_eq_some_iff.1 hm
        refine V_call Tryd.call16 rfl rfl rfl rfl (portref2_ShownIn_c (Dw := False) w59 hA z v96 h97 x21.1 (w64 ((w64 (x43.1 * 60)) + x50.1)) hx99) ?_
        rintro v100 w102 ⟨_, rfl, h101, hk103⟩
        obtain ⟨A104, ht105, hH106⟩ := Hp.addOwnd (Dw := False) hH hB hA hk103 h101
        replace h6 := El.tr (Dw := False) h6 ht105
        replace h97 := Sl.tr (Dw := False) h97 ht105
        replace hK := Tr.trans (Dw := False) hK ht105
        replace hB := Nat.le_trans hB ht105.ex.size
        replace hA := ht105.new
        replace hH : Hp w.heap.size A104 w102 (obS (α := Int) 3 v100 x99 :: []) := hH106
        refine V_y (Y_assign rfl) rfl rfl rfl ?_
        refine V_to (fun _ _ => rfl) ?_
        refine C_seq ?_
        refine C_seq ?_
        refine C_region ?_
        refine V_y (Y_move rfl) rfl rfl rfl ?_
        refine V_y (Y_move rfl) rfl rfl rfl ?_
        refine V_y (Y_lenSl (Hp.any (α := Int) (e := 3) (v := v100) (l := x99) hH (i := 0) rfl) rfl Tryd.underlying34 rfl) rfl rfl rfl ?_
        refine V_y (Y_gtr rfl rfl) rfl rfl rfl ?_
        refine V_to (fun _ _ => rfl) ?_
        refine C_cond rfl (fun hc107 => ?_) (fun hc107 => ?_)
        · rw [if_pos hc107] at hm
          refine C_seq ?_
          refine C_region ?_
          refine V_y (Y_assign rfl) rfl rfl rfl ?_
          refine V_y (Y_assign rfl) rfl rfl rfl ?_
          refine V_to (fun _ _ => rfl) ?_
          obtain rfl := Option.some.inj hm
          refine C_ret ?_
          try simp only [↓inBlock_ret, ↓then_ret]
          exact retQ rfl (Res.two Tryd.results5 rfl rfl) ⟨rfl, hK.kp⟩
        · rw [if_neg (nt hc107)] at hm
          refine C_skip_to (fun _ _ => rfl) ?_
          refine C_seq ?_
          refine C_region ?_
          refine V_y (Y_move rfl) rfl rfl rfl ?_
          refine V_y (Y_move rfl) rfl rfl rfl ?_
          refine V_y (Y_subI rfl rfl) rfl rfl rfl ?_
          obtain ⟨x108, hx108, hm⟩ := Option.bind_eq_some_iff.1 hm
          refine V_indexAddrH (α := Int) (e := 3) (v := v100) (l := x99) hH (i := 0) rfl hx108 Tryd.underlying34 Tryd.sizeOf3 rfl rfl rfl ?_
          intro b109 o110 h111 hl112
          refine V_y (Y_load (El.int h111) Tryd.isAgg3 rfl) rfl rfl rfl ?_
          refine V_y (Y_assign rfl) rfl rfl rfl ?_
          refine V_y (Y_assign rfl) rfl rfl rfl ?_
          refine V_to (fun _ _ => rfl) ?_
          obtain rfl := Option.some.inj hm
          refine C_ret ?_
          try simp only [↓inBlock_ret, ↓then_ret]
          exact retQ rfl (Res.two Tryd.results5 rfl rfl) ⟨rfl, hK.kp⟩

set_option maxRecDepth 4000 in
set_option maxHeartbeats 4000000 in
theorem portlaw2_CalReads_c (w : World) {A : Nat → Prop} (hA : ∀ b, w.heap.size ≤ b → A b) (hT : Fz Tryd_FR A w) (z : cal_Zone) (v_z : Value) (h_z : Sl A w v_z z.changes) (s : ByteArray) {r : Bool} (hm : portlaw2_CalReads z s = some r) : Ret Tryd.prog 3 #[.agg #[.int .i64 z.offset, v_z], .string s] w fun v w' => v = .bool r ∧ Kp False w w' := by
  unfold portlaw2_CalReads at hm
  refine enter Tryd.func3 rfl Tryd.ntmps3 rfl ?_
  have hA0 := hA
  have hB := Nat.le_refl w.heap.size
  have hK : Tr False w.heap.size A w A w := Tr.refl (Dw := False) hA
  have hH : Hp w.heap.size A w [] := Hp.nil
  refine C_seq ?_
  refine C_region ?_
  refine V_box rfl rfl ?_
  intro b3 w4 h5
  have hk7 := h5.kp (Dw := False)
  have h6 : El (α := cal_Zone) A w4 b3 0 z := h5.el hA ⟨[.int .i64 z.offset], _, rfl, rfl, ⟨_, rfl, h_z⟩⟩
  have ht8 := Kp.tr (Dw := False) hk7 hA hB
  replace hH := Hp.kp (Dw := False) hH hk7
  replace h_z := Sl.tr (Dw := False) h_z ht8
  replace hK := Tr.trans (Dw := False) hK ht8
  replace hB := Nat.le_trans hB ht8.ex.size
  replace hA := ht8.new
  refine V_y (Y_assign rfl) rfl rfl rfl ?_
  refine V_to (fun _ _ => rfl) ?_
  refine C_seq ?_
  refine C_region ?_
  obtain ⟨v9, h11, h10⟩ := El_cal_Zone h6
  refine V_y (Y_loadA h11 Tryd.isAgg24 Tryd.sizeOf24 rfl) rfl rfl rfl ?_
  refine V_y (Y_move rfl) rfl rfl rfl ?_
  obtain ⟨x12, hx12, hm⟩ := Option.bind_eq_some_iff.1 hm
  refine V_call Tryd.call4 rfl rfl rfl rfl (cal_ReadMoment_c w4 hA (Fz.tr (Dw := False) hT hK) z v9 h10 s hx12) ?_
  rintro _ w13 ⟨rfl, hk14⟩
  have ht15 := Kp.tr (Dw := False) hk14 hA hB
  replace hH := Hp.kp (Dw := False) hH hk14
  replace h6 := El.tr (Dw := False) h6 ht15
  replace h10 := Sl.tr (Dw := False) h10 ht15
  replace hK := Tr.trans (Dw := False) hK ht15
  replace hB := Nat.le_trans hB ht15.ex.size
  replace hA := ht15.new
  refine V_y (Y_move rfl) rfl rfl rfl ?_
  refine V_y (Y_extract rfl rfl) rfl rfl rfl ?_
  refine V_y (Y_extract rfl rfl) rfl rfl rfl ?_
  refine V_y (Y_assign rfl) rfl rfl rfl ?_
  refine V_y (Y_assign rfl) rfl rfl rfl ?_
  refine V_to (fun _ _ => rfl) ?_
  refine C_seq ?_
  refine C_region ?_
  obtain ⟨v16, h18, h17⟩ := El_cal_Zone h6
  refine V_y (Y_loadA h18 Tryd.isAgg24 Tryd.sizeOf24 rfl) rfl rfl rfl ?_
  refine V_y (Y_move rfl) rfl rfl rfl ?_
  obtain ⟨x19, hx19, hm⟩ := Option.bind_eq_some_iff.1 hm
  refine V_call Tryd.call5 rfl rfl rfl rfl (portref2_ReadMomentOf_c w13 hA (Fz.tr (Dw := False) hT hK) z v16 h17 s hx19) ?_
  rintro _ w20 ⟨rfl, hk21⟩
  have ht22 := Kp.tr (Dw := False) hk21 hA hB
  replace hH := Hp.kp (Dw := False) hH hk21
  replace h6 := El.tr (Dw := False) h6 ht22
  replace h17 := Sl.tr (Dw := False) h17 ht22
  replace hK := Tr.trans (Dw := False) hK ht22
  replace hB := Nat.le_trans hB ht22.ex.size
  replace hA := ht22.new
  refine V_y (Y_move rfl) rfl rfl rfl ?_
  refine V_y (Y_extract rfl rfl) rfl rfl rfl ?_
  refine V_y (Y_extract rfl rfl) rfl rfl rfl ?_
  refine V_y (Y_assign rfl) rfl rfl rfl ?_
  refine V_y (Y_assign rfl) rfl rfl rfl ?_
  refine V_to (fun _ _ => rfl) ?_
  refine C_seq ?_
  refine C_region ?_
  refine V_y (Y_move rfl) rfl rfl rfl ?_
  refine V_y (Y_move rfl) rfl rfl rfl ?_
  refine V_y (Y_eql rfl rfl) rfl rfl rfl ?_
  refine V_y (Y_move rfl) rfl rfl rfl ?_
  refine V_cut 4 (fun _ : Unit => [(28, .bool ((x12.1 == x19.1) && (x12.2 == x19.2)))]) (fun _ w' => w20 = w') ?_ ?_
  · simp only [List.take, List.drop]
    rcases Bool.eq_false_or_eq_true (x12.1 == x19.1) with hc23 | hc23
    · refine V_ge rfl rfl rfl hc23 ?_
      refine V_y (Y_move rfl) rfl rfl rfl ?_
      refine V_ge rfl rfl rfl hc23 ?_
      refine V_y (Y_move rfl) rfl rfl rfl ?_
      refine V_ge rfl rfl rfl hc23 ?_
      refine V_y (Y_eql rfl rfl) rfl rfl rfl ?_
      refine V_y (Y_pick_te rfl hc23 rfl) rfl rfl rfl ?_
      exact V_end fun a ha => ⟨(), ha.sub ⟨(by rw [hc23]; rfl), trivial⟩, rfl⟩
    · refine V_gn rfl rfl rfl hc23 rfl rfl rfl ?_
      refine V_gn rfl rfl rfl hc23 rfl rfl rfl ?_
      refine V_gn rfl rfl rfl hc23 rfl rfl rfl ?_
      refine V_y (Y_pick_fe rfl hc23 rfl) rfl rfl rfl ?_
      exact V_end fun a ha => ⟨(), ha.sub ⟨(by rw [hc23]; rfl), trivial⟩, rfl⟩
  simp only [List.take, List.drop]
  rintro _ _ rfl
  refine V_y (Y_assign rfl) rfl rfl rfl ?_
  refine V_to (fun _ _ => rfl) ?_
  obtain rfl := Option.some.inj hm
  refine C_ret ?_
  try simp only [↓inBlock_ret, ↓then_ret]
  exact retQ rfl (Res.one Tryd.results3 rfl) ⟨rfl, hK.kp⟩

end Go.Proofs.YtiblhdhpiicdiaaDoor.W
