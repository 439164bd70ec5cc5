/-
  Written by program (gen.py) from the IR of the dump: each function computes its model.
-/
import Derived.Test.YtblcbjmgpacliaaGreatDoorRatioWritesW2
namespace Go.Proofs.YtblcbjmgpacliaaGreatDoor.W
open Go Go.RowKit Go.Pu Go.Gw Go.Proofs Go.Proofs.YtblcbjmgpacliaaGreatDoor.M
set_option linter.unusedVariables false
set_option linter.unusedSimpArgs false
variable {Dw : Prop}

set_option maxRecDepth 4000 in
set_option maxHeartbeats 4000000 in
theorem portref2_digits_c (w : World) {A : Nat → Prop} (hA : ∀ b, w.heap.size ≤ b → A b) (s : ByteArray) (most : Int) {r : Bool} (hm : portref2_digits s most = some r) : Ret Tryz.prog 60 #[.string s, .int .i64 most] w fun v w' => v = .bool r ∧ Kp False w w' := by
 unfold portref2_digits at hm
 refine enter Tryz.func60 rfl Tryz.ntmps60 rfl ?_
 have hA0 := hA
 have hB := Nat.le_refl w.heap.size
 have hK : Tr False w.heap.size A w A w := Tr.refl (Dw := False) hA
 have hH : Hp w.heap.size A w [] := Hp.nil
 refine C_seq ?_
 refine C_region ?_
 refine V_as rfl rfl ?_
 refine V_to (fun _ _ => rfl) ?_
 refine C_seq ?_
 obtain ⟨s2, ho1, hm⟩ := Option.bind_eq_some_iff.1 hm
 refine C_cutG (ι := (Nat → Prop)) (fun (A7 : (Nat → Prop)) => [(4, .bool s2)]) (fun (A7 : (Nat → Prop)) => fun w' => Hp w.heap.size A7 w' ([]) ∧ Tr False w.heap.size A w A7 w') ?_ ?_
 ·have hr3 : Tr False w.heap.size A w A w := Tr.refl (Dw := False) hA
  refine C_region ?_
  refine V_mv rfl rfl ?_
  refine V_y (Y_sneq rfl rfl) rfl rfl rfl ?_
  refine V_mv rfl rfl ?_
  rcases Bool.eq_false_or_eq_true (!(strEq s (⟨#[]⟩ : ByteArray))) with hc9 | hc9
  ·rw [if_pos hc9] at ho1
   refine V_ge rfl rfl rfl hc9 ?_
   refine V_mv rfl rfl ?_
   refine V_ge rfl rfl rfl hc9 ?_
   refine V_y (Y_lenStr rfl Tryz.underlying9 rfl) rfl rfl rfl ?_
   refine V_ge rfl rfl rfl hc9 ?_
   refine V_mv rfl rfl ?_
   refine V_ge rfl rfl rfl hc9 ?_
   refine V_y (Y_leq rfl rfl) rfl rfl rfl ?_
   refine V_y (Y_pick_te rfl hc9 rfl) rfl rfl rfl ?_
   refine V_mv rfl rfl ?_
   rcases Bool.eq_false_or_eq_true (decide ((s.size : Int) ≤ most)) with hc10 | hc10
   ·rw [if_pos hc10] at ho1
    refine V_ge rfl rfl rfl hc10 ?_
    refine V_mv rfl rfl ?_
    refine V_ge rfl rfl rfl hc10 ?_
    obtain ⟨x11, hx11, ho1⟩ := Option.bind_eq_some_iff.1 ho1
    refine V_call Tryz.call70 rfl rfl rfl rfl (strings_Trim_c w hA s (⟨#[48, 49, 50, 51, 52, 53, 54, 55, 56, 57]⟩ : ByteArray) hx11) ?_
    rintro _ w12 ⟨rfl, hk13⟩
    have ht14 := Kp.tr (Dw := False) hk13 hA hB
    replace hH := Hp.kp (Dw := False) hH hk13
    replace hr3 := Tr.trans (Dw := False) hr3 ht14
    refine V_ge rfl rfl rfl hc10 ?_
    refine V_y (Y_seql rfl rfl) rfl rfl rfl ?_
    refine V_y (Y_pick_te rfl hc10 rfl) rfl rfl rfl ?_
    refine V_mv rfl rfl ?_
    rcases Bool.eq_false_or_eq_true (strEq x11 (⟨#[]⟩ : ByteArray)) with hc15 | hc15
    ·rw [if_pos hc15] at ho1
     refine V_ge rfl rfl rfl hc15 ?_
     refine V_mv rfl rfl ?_
     refine V_ge rfl rfl rfl hc15 ?_
     refine V_y (Y_lenStr rfl Tryz.underlying9 rfl) rfl rfl rfl ?_
     refine V_ge rfl rfl rfl hc15 ?_
     refine V_y (Y_eql rfl rfl) rfl rfl rfl ?_
     refine V_ge rfl rfl rfl hc15 ?_
     refine V_mv rfl rfl ?_
     rcases Bool.eq_false_or_eq_true ((s.size : Int) == 1) with hc16 | hc16
     ·rw [if_pos hc16] at ho1
      refine V_gn rfl rfl rfl hc16 rfl rfl rfl ?_
      refine V_gn rfl rfl rfl hc16 rfl rfl rfl ?_
      refine V_gn rfl rfl rfl hc16 rfl rfl rfl ?_
      refine V_ge rfl rfl rfl hc15 ?_
      refine V_y (Y_pick_te rfl hc16 rfl) rfl rfl rfl ?_
      refine V_y (Y_pick_te rfl hc15 rfl) rfl rfl rfl ?_
      refine V_as rfl rfl ?_
      obtain rfl := Option.some.inj ho1
      refine V_end (fun a ha17 => ?_)
      exact ⟨A, ha17.sub ⟨rfl, trivial⟩, ⟨hH, hr3⟩⟩
     ·rw [if_neg (nt hc16)] at ho1
      refine V_ge rfl rfl rfl hc16 ?_
      refine V_mv rfl rfl ?_
      refine V_ge rfl rfl rfl hc16 ?_
      obtain ⟨x18, hx18, ho1⟩ := Option.bind_eq_some_iff.1 ho1
      refine V_y (Y_indexS hx18 Tryz.underlying9 rfl rfl) rfl rfl rfl ?_
      refine V_ge rfl rfl rfl hc16 ?_
      refine V_y (Y_neq rfl rfl) rfl rfl rfl ?_
      refine V_ge rfl rfl rfl hc15 ?_
      refine V_y (Y_pick_fe rfl hc16 rfl) rfl rfl rfl ?_
      refine V_y (Y_pick_te rfl hc15 rfl) rfl rfl rfl ?_
      refine V_as rfl rfl ?_
      obtain rfl := Option.some.inj ho1
      refine V_end (fun a ha19 => ?_)
      exact ⟨A, ha19.sub ⟨rfl, trivial⟩, ⟨hH, hr3⟩⟩
    ·rw [if_neg (nt hc15)] at ho1
     refine V_gn rfl rfl rfl hc15 rfl rfl rfl ?_
     refine V_gn rfl rfl rfl hc15 rfl rfl rfl ?_
     refine V_gn rfl rfl rfl hc15 rfl rfl rfl ?_
     refine V_gn rfl rfl rfl hc15 rfl rfl rfl ?_
     refine V_gu rfl rfl rfl rfl rfl ?_
     refine V_gu rfl rfl rfl rfl rfl ?_
     refine V_gu rfl rfl rfl rfl rfl ?_
     refine V_gn rfl rfl rfl hc15 rfl rfl rfl ?_
     refine V_y (Y_pick_fe rfl hc15 rfl) rfl rfl rfl ?_
     refine V_as rfl rfl ?_
     obtain rfl := Option.some.inj ho1
     refine V_end (fun a ha20 => ?_)
     exact ⟨A, ha20.sub ⟨rfl, trivial⟩, ⟨hH, hr3⟩⟩
   ·rw [if_neg (nt hc10)] at ho1
    refine V_gn rfl rfl rfl hc10 rfl rfl rfl ?_
    refine V_gn rfl rfl rfl hc10 rfl rfl rfl ?_
    refine V_gn rfl rfl rfl hc10 rfl rfl rfl ?_
    refine V_y (Y_pick_fe rfl hc10 rfl) rfl rfl rfl ?_
    refine V_mv rfl rfl ?_
    rcases Bool.eq_false_or_eq_true (false) with hc21 | hc21
    ·rw [if_pos hc21] at ho1
     refine V_ge rfl rfl rfl hc21 ?_
     refine V_mv rfl rfl ?_
     refine V_ge rfl rfl rfl hc21 ?_
     refine V_y (Y_lenStr rfl Tryz.underlying9 rfl) rfl rfl rfl ?_
     refine V_ge rfl rfl rfl hc21 ?_
     refine V_y (Y_eql rfl rfl) rfl rfl rfl ?_
     refine V_ge rfl rfl rfl hc21 ?_
     refine V_mv rfl rfl ?_
     rcases Bool.eq_false_or_eq_true ((s.size : Int) == 1) with hc22 | hc22
     ·rw [if_pos hc22] at ho1
      refine V_gn rfl rfl rfl hc22 rfl rfl rfl ?_
      refine V_gn rfl rfl rfl hc22 rfl rfl rfl ?_
      refine V_gn rfl rfl rfl hc22 rfl rfl rfl ?_
      refine V_ge rfl rfl rfl hc21 ?_
      refine V_y (Y_pick_te rfl hc22 rfl) rfl rfl rfl ?_
      refine V_y (Y_pick_te rfl hc21 rfl) rfl rfl rfl ?_
      refine V_as rfl rfl ?_
      obtain rfl := Option.some.inj ho1
      refine V_end (fun a ha23 => ?_)
      exact ⟨A, ha23.sub ⟨rfl, trivial⟩, ⟨hH, hr3⟩⟩
     ·rw [if_neg (nt hc22)] at ho1
      refine V_ge rfl rfl rfl hc22 ?_
      refine V_mv rfl rfl ?_
      refine V_ge rfl rfl rfl hc22 ?_
      obtain ⟨x24, hx24, ho1⟩ := Option.bind_eq_some_iff.1 ho1
      refine V_y (Y_indexS hx24 Tryz.underlying9 rfl rfl) rfl rfl rfl ?_
      refine V_ge rfl rfl rfl hc22 ?_
      refine V_y (Y_neq rfl rfl) rfl rfl rfl ?_
      refine V_ge rfl rfl rfl hc21 ?_
      refine V_y (Y_pick_fe rfl hc22 rfl) rfl rfl rfl ?_
      refine V_y (Y_pick_te rfl hc21 rfl) rfl rfl rfl ?_
      refine V_as rfl rfl ?_
      obtain rfl := Option.some.inj ho1
      refine V_end (fun a ha25 => ?_)
      exact ⟨A, ha25.sub ⟨rfl, trivial⟩, ⟨hH, hr3⟩⟩
    ·rw [if_neg (nt hc21)] at ho1
     refine V_gn rfl rfl rfl hc21 rfl rfl rfl ?_
     refine V_gn rfl rfl rfl hc21 rfl rfl rfl ?_
     refine V_gn rfl rfl rfl hc21 rfl rfl rfl ?_
     refine V_gn rfl rfl rfl hc21 rfl rfl rfl ?_
     refine V_gu rfl rfl rfl rfl rfl ?_
     refine V_gu rfl rfl rfl rfl rfl ?_
     refine V_gu rfl rfl rfl rfl rfl ?_
     refine V_gn rfl rfl rfl hc21 rfl rfl rfl ?_
     refine V_y (Y_pick_fe rfl hc21 rfl) rfl rfl rfl ?_
     refine V_as rfl rfl ?_
     obtain rfl := Option.some.inj ho1
     refine V_end (fun a ha26 => ?_)
     exact ⟨A, ha26.sub ⟨rfl, trivial⟩, ⟨hH, hr3⟩⟩
  ·rw [if_neg (nt hc9)] at ho1
   refine V_gn rfl rfl rfl hc9 rfl rfl rfl ?_
   refine V_gn rfl rfl rfl hc9 rfl rfl rfl ?_
   refine V_gn rfl rfl rfl hc9 rfl rfl rfl ?_
   refine V_gn rfl rfl rfl hc9 rfl rfl rfl ?_
   refine V_y (Y_pick_fe rfl hc9 rfl) rfl rfl rfl ?_
   refine V_mv rfl rfl ?_
   rcases Bool.eq_false_or_eq_true (false) with hc27 | hc27
   ·rw [if_pos hc27] at ho1
    refine V_ge rfl rfl rfl hc27 ?_
    refine V_mv rfl rfl ?_
    refine V_ge rfl rfl rfl hc27 ?_
    obtain ⟨x28, hx28, ho1⟩ := Option.bind_eq_some_iff.1 ho1
    refine V_call Tryz.call70 rfl rfl rfl rfl (strings_Trim_c w hA s (⟨#[48, 49, 50, 51, 52, 53, 54, 55, 56, 57]⟩ : ByteArray) hx28) ?_
    rintro _ w29 ⟨rfl, hk30⟩
    have ht31 := Kp.tr (Dw := False) hk30 hA hB
    replace hH := Hp.kp (Dw := False) hH hk30
    replace hr3 := Tr.trans (Dw := False) hr3 ht31
    refine V_ge rfl rfl rfl hc27 ?_
    refine V_y (Y_seql rfl rfl) rfl rfl rfl ?_
    refine V_y (Y_pick_te rfl hc27 rfl) rfl rfl rfl ?_
    refine V_mv rfl rfl ?_
    rcases Bool.eq_false_or_eq_true (strEq x28 (⟨#[]⟩ : ByteArray)) with hc32 | hc32
    ·rw [if_pos hc32] at ho1
     refine V_ge rfl rfl rfl hc32 ?_
     refine V_mv rfl rfl ?_
     refine V_ge rfl rfl rfl hc32 ?_
     refine V_y (Y_lenStr rfl Tryz.underlying9 rfl) rfl rfl rfl ?_
     refine V_ge rfl rfl rfl hc32 ?_
     refine V_y (Y_eql rfl rfl) rfl rfl rfl ?_
     refine V_ge rfl rfl rfl hc32 ?_
     refine V_mv rfl rfl ?_
     rcases Bool.eq_false_or_eq_true ((s.size : Int) == 1) with hc33 | hc33
     ·rw [if_pos hc33] at ho1
      refine V_gn rfl rfl rfl hc33 rfl rfl rfl ?_
      refine V_gn rfl rfl rfl hc33 rfl rfl rfl ?_
      refine V_gn rfl rfl rfl hc33 rfl rfl rfl ?_
      refine V_ge rfl rfl rfl hc32 ?_
      refine V_y (Y_pick_te rfl hc33 rfl) rfl rfl rfl ?_
      refine V_y (Y_pick_te rfl hc32 rfl) rfl rfl rfl ?_
      refine V_as rfl rfl ?_
      obtain rfl := Option.some.inj ho1
      refine V_end (fun a ha34 => ?_)
      exact ⟨A, ha34.sub ⟨rfl, trivial⟩, ⟨hH, hr3⟩⟩
     ·rw [if_neg (nt hc33)] at ho1
      refine V_ge rfl rfl rfl hc33 ?_
      refine V_mv rfl rfl ?_
      refine V_ge rfl rfl rfl hc33 ?_
      obtain ⟨x35, hx35, ho1⟩ := Option.bind_eq_some_iff.1 ho1
      refine V_y (Y_indexS hx35 Tryz.underlying9 rfl rfl) rfl rfl rfl ?_
      refine V_ge rfl rfl rfl hc33 ?_
      refine V_y (Y_neq rfl rfl) rfl rfl rfl ?_
      refine V_ge rfl rfl rfl hc32 ?_
      refine V_y (Y_pick_fe rfl hc33 rfl) rfl rfl rfl ?_
      refine V_y (Y_pick_te rfl hc32 rfl) rfl rfl rfl ?_
      refine V_as rfl rfl ?_
      obtain rfl := Option.some.inj ho1
      refine V_end (fun a ha36 => ?_)
      exact ⟨A, ha36.sub ⟨rfl, trivial⟩, ⟨hH, hr3⟩⟩
    ·rw [if_neg (nt hc32)] at ho1
     refine V_gn rfl rfl rfl hc32 rfl rfl rfl ?_
     refine V_gn rfl rfl rfl hc32 rfl rfl rfl ?_
     refine V_gn rfl rfl rfl hc32 rfl rfl rfl ?_
     refine V_gn rfl rfl rfl hc32 rfl rfl rfl ?_
     refine V_gu rfl rfl rfl rfl rfl ?_
     refine V_gu rfl rfl rfl rfl rfl ?_
     refine V_gu rfl rfl rfl rfl rfl ?_
     refine V_gn rfl rfl rfl hc32 rfl rfl rfl ?_
     refine V_y (Y_pick_fe rfl hc32 rfl) rfl rfl rfl ?_
     refine V_as rfl rfl ?_
     obtain rfl := Option.some.inj ho1
     refine V_end (fun a ha37 => ?_)
     exact ⟨A, ha37.sub ⟨rfl, trivial⟩, ⟨hH, hr3⟩⟩
   ·rw [if_neg (nt hc27)] at ho1
    refine V_gn rfl rfl rfl hc27 rfl rfl rfl ?_
    refine V_gn rfl rfl rfl hc27 rfl rfl rfl ?_
    refine V_gn rfl rfl rfl hc27 rfl rfl rfl ?_
    refine V_y (Y_pick_fe rfl hc27 rfl) rfl rfl rfl ?_
    refine V_mv rfl rfl ?_
    rcases Bool.eq_false_or_eq_true (false) with hc38 | hc38
    ·rw [if_pos hc38] at ho1
     refine V_ge rfl rfl rfl hc38 ?_
     refine V_mv rfl rfl ?_
     refine V_ge rfl rfl rfl hc38 ?_
     refine V_y (Y_lenStr rfl Tryz.underlying9 rfl) rfl rfl rfl ?_
     refine V_ge rfl rfl rfl hc38 ?_
     refine V_y (Y_eql rfl rfl) rfl rfl rfl ?_
     refine V_ge rfl rfl rfl hc38 ?_
     refine V_mv rfl rfl ?_
     rcases Bool.eq_false_or_eq_true ((s.size : Int) == 1) with hc39 | hc39
     ·rw [if_pos hc39] at ho1
      refine V_gn rfl rfl rfl hc39 rfl rfl rfl ?_
      refine V_gn rfl rfl rfl hc39 rfl rfl rfl ?_
      refine V_gn rfl rfl rfl hc39 rfl rfl rfl ?_
      refine V_ge rfl rfl rfl hc38 ?_
      refine V_y (Y_pick_te rfl hc39 rfl) rfl rfl rfl ?_
      refine V_y (Y_pick_te rfl hc38 rfl) rfl rfl rfl ?_
      refine V_as rfl rfl ?_
      obtain rfl := Option.some.inj ho1
      refine V_end (fun a ha40 => ?_)
      exact ⟨A, ha40.sub ⟨rfl, trivial⟩, ⟨hH, hr3⟩⟩
     ·rw [if_neg (nt hc39)] at ho1
      refine V_ge rfl rfl rfl hc39 ?_
      refine V_mv rfl rfl ?_
      refine V_ge rfl rfl rfl hc39 ?_
      obtain ⟨x41, hx41, ho1⟩ := Option.bind_eq_some_iff.1 ho1
      refine V_y (Y_indexS hx41 Tryz.underlying9 rfl rfl) rfl rfl rfl ?_
      refine V_ge rfl rfl rfl hc39 ?_
      refine V_y (Y_neq rfl rfl) rfl rfl rfl ?_
      refine V_ge rfl rfl rfl hc38 ?_
      refine V_y (Y_pick_fe rfl hc39 rfl) rfl rfl rfl ?_
      refine V_y (Y_pick_te rfl hc38 rfl) rfl rfl rfl ?_
      refine V_as rfl rfl ?_
      obtain rfl := Option.some.inj ho1
      refine V_end (fun a ha42 => ?_)
      exact ⟨A, ha42.sub ⟨rfl, trivial⟩, ⟨hH, hr3⟩⟩
    ·rw [if_neg (nt hc38)] at ho1
     refine V_gn rfl rfl rfl hc38 rfl rfl rfl ?_
     refine V_gn rfl rfl rfl hc38 rfl rfl rfl ?_
     refine V_gn rfl rfl rfl hc38 rfl rfl rfl ?_
     refine V_gn rfl rfl rfl hc38 rfl rfl rfl ?_
     refine V_gu rfl rfl rfl rfl rfl ?_
     refine V_gu rfl rfl rfl rfl rfl ?_
     refine V_gu rfl rfl rfl rfl rfl ?_
     refine V_gn rfl rfl rfl hc38 rfl rfl rfl ?_
     refine V_y (Y_pick_fe rfl hc38 rfl) rfl rfl rfl ?_
     refine V_as rfl rfl ?_
     obtain rfl := Option.some.inj ho1
     refine V_end (fun a ha43 => ?_)
     exact ⟨A, ha43.sub ⟨rfl, trivial⟩, ⟨hH, hr3⟩⟩
 rintro A7 w4 ⟨hH8, hk5⟩ a ha6
 replace hK := Tr.trans (Dw := False) hK hk5
 replace hA := hk5.new
 replace hH : Hp w.heap.size A7 w4 ([]) := hH8
 refine C_at (n := ⟨28, [], none⟩) (fun _ _ => rfl) ?_ ha6
 obtain rfl := Option.some.inj hm
 refine C_ret ?_
 try simp only [↓inBlock_ret, ↓then_ret]
 exact retQ rfl (Res.one Tryz.results60 rfl) ⟨rfl, hK.kp⟩

set_option maxRecDepth 4000 in
set_option maxHeartbeats 4000000 in
theorem portref2_digitString_c (w : World) {A : Nat → Prop} (hA : ∀ b, w.heap.size ≤ b → A b) (s : ByteArray) {r : Bool} (hm : portref2_digitString s = some r) : Ret Tryz.prog 47 #[.string s] w fun v w' => v = .bool r ∧ Kp False w w' := by
 unfold portref2_digitString at hm
 refine enter Tryz.func47 rfl Tryz.ntmps47 rfl ?_
 have hA0 := hA
 have hB := Nat.le_refl w.heap.size
 have hK : Tr False w.heap.size A w A w := Tr.refl (Dw := False) hA
 have hH : Hp w.heap.size A w [] := Hp.nil
 refine C_seq ?_
 refine C_region ?_
 refine V_as rfl rfl ?_
 refine V_to (fun _ _ => rfl) ?_
 refine C_seq ?_
 refine C_region ?_
 refine V_mv rfl rfl ?_
 obtain ⟨x1, hx1, hm⟩ := Option.bind_eq_some_iff.1 hm
 refine V_call Tryz.call60 rfl rfl rfl rfl (portref2_digits_c w hA s 20000 hx1) ?_
 rintro _ w2 ⟨rfl, hk3⟩
 have ht4 := Kp.tr (Dw := False) hk3 hA hB
 replace hK := Tr.trans (Dw := False) hK ht4
 refine V_as rfl rfl ?_
 refine V_to (fun _ _ => rfl) ?_
 obtain rfl := Option.some.inj hm
 refine C_ret ?_
 try simp only [↓inBlock_ret, ↓then_ret]
 exact retQ rfl (Res.one Tryz.results47 rfl) ⟨rfl, hK.kp⟩

set_option maxRecDepth 4000 in
set_option maxHeartbeats 4000000 in
theorem portref2_wholeText_c (w : World) {A : Nat → Prop} (hA : ∀ b, w.heap.size ≤ b → A b) (s : ByteArray) {r : (List UInt32)} (hm : portref2_wholeText s = some r) : Ret Tryz.prog 24 #[.string s] w fun v w' => ∃ s0, v = s0 ∧ Ownd 86 w w' s0 r ∧ Kp Dw w w' := by
 unfold portref2_wholeText at hm
 refine enter Tryz.func24 rfl Tryz.ntmps24 rfl ?_
 have hA0 := hA
 have hB := Nat.le_refl w.heap.size
 have hK : Tr Dw w.heap.size A w A w := Tr.refl (Dw := Dw) hA
 have hH : Hp w.heap.size A w [] := Hp.nil
 refine C_seq ?_
 refine C_region ?_
 refine V_as rfl rfl ?_
 refine V_to (fun _ _ => rfl) ?_
 refine C_seq ?_
 refine C_region ?_
 refine V_as rfl rfl ?_
 refine V_to (fun _ _ => rfl) ?_
 refine C_seq ?_
 refine C_seq ?_
 refine C_region ?_
 refine V_as rfl rfl ?_
 refine V_to (fun _ _ => rfl) ?_
 replace hH : Hp w.heap.size A w (obS (α := UInt32) 86 (.slice none 0 0) ([] : (List UInt32)) :: []) := Hp.addNil (α := UInt32) (e := 86) hH
 obtain ⟨o1, ho1, hm⟩ := Option.bind_eq_some_iff.1 hm
 refine C_cutG (ι := (((List UInt32) × Int) × Value × (Nat → Prop))) (fun ⟨s2, v8, A10⟩ => [(3, v8)]) (fun ⟨s2, v8, A10⟩ => fun w' => o1 = .fin s2 ∧ Hp w.heap.size A10 w' (obS (α := UInt32) 86 v8 s2.1 :: []) ∧ Tr Dw w.heap.size A w A10 w') ?_ ?_
 ·refine C_block ?_
  refine C_while ho1 (fun s12 a w' => ∃ i : (Value × (Nat → Prop)), Has ⟨63, [], none⟩ a ([(0, .string s), (3, i.1), (4, .int .i64 s12.2)]) ∧ Hp w.heap.size i.2 w' (obS (α := UInt32) 86 i.1 s12.1 :: []) ∧ Tr Dw w.heap.size A w i.2 w') (fun a ha => ⟨(.slice none 0 0, A), ha.sub ⟨rfl, rfl, rfl, trivial⟩, ⟨hH, Tr.refl (Dw := Dw) hA⟩⟩) ?_
  rintro K s12 a w13 ⟨⟨v14, A16⟩, ha128, hH17, hr3⟩ K24
  refine C_of ?_ ha128
  replace hB := Nat.le_trans hB hr3.ex.size
  replace hA := hr3.new
  replace hH : Hp w.heap.size A16 w13 (obS (α := UInt32) 86 v14 s12.1 :: []) := hH17
  obtain ⟨x18, h19, h20⟩ := K24
  refine C_seq ?_
  refine C_seq ?_
  refine C_region ?_
  refine V_mv rfl rfl ?_
  refine V_mv rfl rfl ?_
  refine V_y (Y_lenStr rfl Tryz.underlying9 rfl) rfl rfl rfl ?_
  refine V_y (Y_lss rfl rfl) rfl rfl rfl ?_
  refine V_to (fun _ _ => rfl) ?_
  refine C_cond rfl (fun hc25 => ?_) (fun hc25 => ?_)
  ·rw [if_pos hc25] at h19
   refine C_skip_to (fun _ _ => rfl) ?_
   obtain ⟨s27, ho26, h19⟩ := Option.bind_eq_some_iff.1 h19
   refine C_cutG (ι := (Value × (Nat → Prop))) (fun ⟨v29, A34⟩ => [(0, .string s), (3, v29), (4, .int .i64 s27.2)]) (fun ⟨v29, A34⟩ => fun w' => Hp w.heap.size A34 w' (obS (α := UInt32) 86 v29 s27.1 :: []) ∧ Tr Dw w.heap.size A16 w13 A34 w') ?_ ?_
   ·have hr28 : Tr Dw w.heap.size A16 w13 A16 w13 := Tr.refl (Dw := Dw) hA
    refine C_block ?_
    refine C_seq ?_
    refine C_region ?_
    refine V_mv rfl rfl ?_
    refine V_y (Y_addI rfl rfl) rfl rfl rfl ?_
    refine V_mv rfl rfl ?_
    refine V_y (Y_lenStr rfl Tryz.underlying9 rfl) rfl rfl rfl ?_
    refine V_y (Y_min2 rfl rfl) rfl rfl rfl ?_
    refine V_as rfl rfl ?_
    refine V_to (fun _ _ => rfl) ?_
    refine C_seq ?_
    refine C_region ?_
    refine V_as rfl rfl ?_
    refine V_as rfl rfl ?_
    refine V_to (fun _ _ => rfl) ?_
    refine C_seq ?_
    obtain ⟨o36, ho36, ho26⟩ := Option.bind_eq_some_iff.1 ho26
    refine C_cutG (ι := (Int × Int × Int)) (fun (s37 : (Int × Int × Int)) => [(0, .string s), (3, v14), (4, .int .i64 s37.1), (6, .int .u64 s37.2.1), (7, .int .u64 s37.2.2)]) (fun (s37 : (Int × Int × Int)) => fun w' => o36 = .fin s37 ∧ w13 = w') ?_ ?_
    ·refine C_block ?_
     refine C_while ho36 (fun s43 a w' => ∃ i : Unit, Has ⟨63, [], none⟩ a ([(0, .string s), (3, v14), (4, .int .i64 s43.1), (5, .int .i64 (if (s.size : Int) < w64 (s12.2 + 9) then (s.size : Int) else w64 (s12.2 + 9))), (6, .int .u64 s43.2.1), (7, .int .u64 s43.2.2)]) ∧ w13 = w') (fun a ha => ⟨(), ha.sub ⟨rfl, rfl, rfl, rfl, rfl, rfl, trivial⟩, rfl⟩) ?_
     rintro K s43 a _ ⟨_, ha56, rfl⟩ K51
     refine C_of ?_ ha56
     obtain ⟨x45, h46, h47⟩ := K51
     refine C_seq ?_
     refine C_seq ?_
     refine C_region ?_
     refine V_mv rfl rfl ?_
     refine V_mv rfl rfl ?_
     refine V_y (Y_lss rfl rfl) rfl rfl rfl ?_
     refine V_to (fun _ _ => rfl) ?_
     refine C_cond rfl (fun hc52 => ?_) (fun hc52 => ?_)
     ·rw [if_pos hc52] at h46
      refine C_skip_to (fun _ _ => rfl) ?_
      refine C_seq ?_
      refine C_block ?_
      refine C_region ?_
      refine V_mv rfl rfl ?_
      refine V_y (Y_mul rfl rfl) rfl rfl rfl ?_
      refine V_mv rfl rfl ?_
      refine V_mv rfl rfl ?_
      obtain ⟨x53, hx53, h46⟩ := Option.bind_eq_some_iff.1 h46
      refine V_y (Y_indexS hx53 Tryz.underlying9 rfl rfl) rfl rfl rfl ?_
      refine V_y (Y_subB rfl rfl) rfl rfl rfl ?_
      refine V_y (Y_convI Tryz.underlying5 Tryz.underlying85 rfl) rfl rfl rfl ?_
      refine V_y (Y_add rfl rfl) rfl rfl rfl ?_
      refine V_mv rfl rfl ?_
      refine V_y (Y_mul rfl rfl) rfl rfl rfl ?_
      refine V_as rfl rfl ?_
      refine V_as rfl rfl ?_
      refine V_to (fun _ _ => rfl) ?_
      refine C_region ?_
      refine V_mv rfl rfl ?_
      refine V_y (Y_addI rfl rfl) rfl rfl rfl ?_
      refine V_as rfl rfl ?_
      obtain rfl := Option.some.inj h46
      refine V_end (fun a ha54 => ?_)
      exact ⟨(w64 (s43.1 + 1), IntKind.wrap .u64 ((IntKind.wrap .u64 (10 * s43.2.1)) + (IntKind.wrap .u64 ((toU8 ((x53.toNat : Int) - 48)).toNat : Int))), IntKind.wrap .u64 (10 * s43.2.2)), h47, ⟨(), ha54.sub ⟨rfl, rfl, rfl, rfl, rfl, rfl, trivial⟩, rfl⟩⟩
     ·rw [if_neg (nt hc52)] at h46
      obtain rfl := Option.some.inj h46
      refine C_exit (fun a ha55 => ?_)
      exact ⟨(s43.1, s43.2.1, s43.2.2), ha55.sub ⟨rfl, rfl, rfl, rfl, rfl, trivial⟩, ⟨h47.symm, rfl⟩⟩
    rintro s37 _ ⟨rfl, rfl⟩ a ha42
    rw [Lp.andThen_fin] at ho26
    refine C_at (n := ⟨63, [], none⟩) (fun _ _ => rfl) ?_ ha42
    refine C_seq ?_
    refine C_seq ?_
    refine C_region ?_
    refine V_mv rfl rfl ?_
    refine V_y (Y_lenSl (Hp.any (α := UInt32) (e := 86) (v := v14) (l := s12.1) hH (i := 0) rfl) rfl Tryz.underlying39 rfl) rfl rfl rfl ?_
    refine V_mv rfl rfl ?_
    refine V_to (fun _ _ => rfl) ?_
    have hn81 := Hp.le (α := UInt32) (e := 86) (v := v14) (l := s12.1) hH (i := 0) rfl
    obtain ⟨o57, ho57, ho26⟩ := Option.bind_eq_some_iff.1 ho26
    refine C_cutG (ι := (((List UInt32) × Int) × Value × (Nat → Prop))) (fun ⟨s58, v64, A66⟩ => [(0, .string s), (3, v64), (4, .int .i64 s37.1), (6, .int .u64 s58.2)]) (fun ⟨s58, v64, A66⟩ => fun w' => o57 = .fin s58 ∧ Hp w.heap.size A66 w' (obS (α := UInt32) 86 v64 s58.1 :: []) ∧ Tr Dw w.heap.size A16 w13 A66 w') ?_ ?_
    ·refine C_block ?_
     refine C_range ho57 (fun k60 s68 a w' => ∃ i : (Value × (Nat → Prop)), Has ⟨63, [], none⟩ a ([(0, .string s), (3, i.1), (4, .int .i64 s37.1), (6, .int .u64 s68.2), (7, .int .u64 s37.2.2), (34, .int .i64 (s12.1.length : Int)), (35, .int .i64 (k60 : Int))]) ∧ Hp w.heap.size i.2 w' (obS (α := UInt32) 86 i.1 s68.1 :: []) ∧ Tr Dw w.heap.size A16 w13 i.2 w') (fun a ha => ⟨(v14, A16), ha.sub ⟨rfl, rfl, rfl, rfl, rfl, rfl, rfl, trivial⟩, ⟨hH, Tr.refl (Dw := Dw) hA⟩⟩) ?_
     rintro K k60 s68 a w69 ⟨⟨v70, A72⟩, ha99, hH73, hr59⟩ hle77 K80 h79
     refine C_of ?_ ha99
     replace hB := Nat.le_trans hB hr59.ex.size
     replace hA := hr59.new
     replace hH : Hp w.heap.size A72 w69 (obS (α := UInt32) 86 v70 s68.1 :: []) := hH73
     refine C_seq (C_region (V_y (Y_lss rfl rfl) rfl rfl rfl (V_to (fun _ _ => rfl) ?_)))
     refine C_seq ?_
     refine C_cond rfl (fun hc82 => ?_) (fun hc82 => ?_)
     ·have hlt78 := lt_of_dec hc82
      obtain ⟨x74, h75, h76⟩ := K80 hlt78
      refine C_skip_to (fun _ _ => rfl) ?_
      refine C_seq ?_
      refine C_block ?_
      refine C_seq ?_
      refine C_region ?_
      refine V_mv rfl rfl ?_
      refine V_as rfl rfl ?_
      refine V_to (fun _ _ => rfl) ?_
      refine C_seq ?_
      refine C_region ?_
      refine V_mv rfl rfl ?_
      refine V_mv rfl rfl ?_
      refine V_mv rfl rfl ?_
      refine V_mv rfl rfl ?_
      obtain ⟨x83, hx83, h75⟩ := Option.bind_eq_some_iff.1 h75
      refine V_indexAddrH (α := UInt32) (e := 86) (v := v70) (l := s68.1) hH (i := 0) rfl hx83 Tryz.underlying39 Tryz.sizeOf86 rfl rfl rfl ?_
      intro b84 o85 h86 hl87
      refine V_y (Y_load (El.u32 h86) Tryz.isAgg86 rfl) rfl rfl rfl ?_
      refine V_y (Y_convI Tryz.underlying86 Tryz.underlying85 rfl) rfl rfl rfl ?_
      refine V_y (Y_mul rfl rfl) rfl rfl rfl ?_
      refine V_y (Y_add rfl rfl) rfl rfl rfl ?_
      refine V_as rfl rfl ?_
      refine V_to (fun _ _ => rfl) ?_
      refine C_seq ?_
      refine C_region ?_
      refine V_mv rfl rfl ?_
      refine V_mv rfl rfl ?_
      refine V_mv rfl rfl ?_
      refine V_y (Y_convU32 Tryz.underlying85 Tryz.underlying86 rfl) rfl rfl rfl ?_
      refine V_indexAddrH (α := UInt32) (e := 86) (v := v70) (l := s68.1) hH (i := 0) rfl hx83 Tryz.underlying39 Tryz.sizeOf86 rfl rfl rfl ?_
      intro b88 o89 h90 hl91
      obtain ⟨x92, hx92, h75⟩ := Option.bind_eq_some_iff.1 h75
      refine V_storeH (Dw := Dw) (α := UInt32) (e := 86) (v := v70) (l := s68.1) hH (i := 0) rfl hl91 hx92 rfl Tryz.sizeOf86 rfl hB hA rfl rfl ?_
      intro w93 hH94 ht95
      replace hr59 := Tr.trans hr59 ht95
      replace hH : Hp w.heap.size A72 w93 (obS (α := UInt32) 86 v70 x92 :: []) := hH94
      refine V_to (fun _ _ => rfl) ?_
      refine C_region ?_
      refine V_mv rfl rfl ?_
      obtain ⟨x96, hx96, h75⟩ := Option.bind_eq_some_iff.1 h75
      refine V_y (Y_shr hx96 rfl rfl) rfl rfl rfl ?_
      refine V_as rfl rfl ?_
      refine V_to (fun _ _ => rfl) ?_
      refine C_region ?_
      refine V_y (Y_addI rfl rfl) rfl rfl rfl ?_
      refine V_mv rfl rfl ?_
      obtain rfl := Option.some.inj h75
      refine V_end (fun a ha97 => ?_)
      exact ⟨(x92, x96), hlt78, h76, ⟨(v70, A72), ha97.sub ⟨rfl, rfl, rfl, rfl, rfl, rfl, (congrArg (fun z => some (Value.int .i64 z)) (w64_succ hlt78 hn81)), trivial⟩, ⟨hH, hr59⟩⟩⟩
     ·refine C_exit (fun a ha98 => ?_)
      exact ⟨((s68.1, s68.2), v70, A72), ha98.sub ⟨rfl, rfl, rfl, rfl, trivial⟩, ⟨(h79 (eq_of_dec hle77 hc82)).symm, hH, hr59⟩⟩
    rintro ⟨s58, v64, A66⟩ w61 ⟨rfl, hH67, hk62⟩ a ha63
    rw [Lp.andThen_fin] at ho26
    replace hr28 := Tr.trans hr28 hk62
    replace hB := Nat.le_trans hB hk62.ex.size
    replace hA := hk62.new
    replace hH : Hp w.heap.size A66 w61 (obS (α := UInt32) 86 v64 s58.1 :: []) := hH67
    refine C_at (n := ⟨63, [], none⟩) (fun _ _ => rfl) ?_ ha63
    refine C_seq ?_
    refine C_region ?_
    refine V_mv rfl rfl ?_
    refine V_y (Y_gtr rfl rfl) rfl rfl rfl ?_
    refine V_to (fun _ _ => rfl) ?_
    obtain ⟨s101, ho100, ho26⟩ := Option.bind_eq_some_iff.1 ho26
    refine C_cutG (ι := (Value × (Nat → Prop))) (fun ⟨v103, A108⟩ => [(0, .string s), (3, v103), (4, .int .i64 s37.1)]) (fun ⟨v103, A108⟩ => fun w' => Hp w.heap.size A108 w' (obS (α := UInt32) 86 v103 s101 :: []) ∧ Tr Dw w.heap.size A66 w61 A108 w') ?_ ?_
    ·have hr102 : Tr Dw w.heap.size A66 w61 A66 w61 := Tr.refl (Dw := Dw) hA
     refine C_cond rfl (fun hc110 => ?_) (fun hc110 => ?_)
     ·rw [if_pos hc110] at ho100
      refine C_region ?_
      refine V_mv rfl rfl ?_
      refine V_mv rfl rfl ?_
      refine V_y (Y_convU32 Tryz.underlying85 Tryz.underlying86 rfl) rfl rfl rfl ?_
      refine V_buildSlice (Dw := Dw) (cells := #[.int .u32 ((toU32 s58.2).toNat : Int)]) (l := ([(toU32 s58.2)] : List UInt32)) (len := 1) Tryz.underlying39 Tryz.sizeOf86 Tryz.zeroValue86 rfl (by generalize (((toU32 s58.2).toNat : Int) : Int) = z115; kernel_rfl) (show (1 * 1 : Nat) ≠ 0 by decide) (show (1 * 1 : Nat) ≤ 2 ^ 24 by decide) hA ⟨[.int .u32 ((toU32 s58.2).toNat : Int)], _, rfl, rfl, rfl⟩ rfl rfl ?_
      intro v111 w112 hk114 h113
      have ht116 := Kp.tr hk114 hA hB
      replace hH := Hp.kp hH hk114
      replace hr102 := Tr.trans hr102 ht116
      replace hB := Nat.le_trans hB ht116.ex.size
      replace hA := ht116.new
      obtain ⟨x117, hx117, ho100⟩ := Option.bind_eq_some_iff.1 ho100
      refine V_appendH (Dw := Dw) (e := 86) (v := v64) (l := s58.1) (ti := Tryz.t86) (bytes := 4) (lim := 35184372088832) hH (i := 0) rfl h113 hx117 Tryz.underlying39 Tryz_info86 rfl rfl rfl rfl (by decide) (by decide) (by decide) hB hA rfl rfl rfl ?_
      intro v118 w119 A120 hH121 ht122
      replace hr102 := Tr.trans hr102 ht122
      replace hH : Hp w.heap.size A120 w119 (obS (α := UInt32) 86 v118 x117 :: []) := hH121
      refine V_as rfl rfl ?_
      obtain rfl := Option.some.inj ho100
      refine V_end (fun a ha123 => ?_)
      exact ⟨(v118, A120), ha123.sub ⟨rfl, rfl, rfl, trivial⟩, ⟨hH, hr102⟩⟩
     ·rw [if_neg (nt hc110)] at ho100
      obtain rfl := Option.some.inj ho100
      refine C_skip (fun a ha124 => ?_)
      exact ⟨(v64, A66), ha124.sub ⟨rfl, rfl, rfl, trivial⟩, ⟨hH, hr102⟩⟩
    rintro ⟨v103, A108⟩ w105 ⟨hH109, hk106⟩ a ha107
    replace hr28 := Tr.trans hr28 hk106
    replace hA := hk106.new
    replace hH : Hp w.heap.size A108 w105 (obS (α := UInt32) 86 v103 s101 :: []) := hH109
    obtain rfl := Option.some.inj ho26
    exact ⟨(v103, A108), ha107.sub ⟨rfl, rfl, rfl, trivial⟩, ⟨hH, hr28⟩⟩
   rintro ⟨v29, A34⟩ w31 ⟨hH35, hk32⟩ a ha33
   replace hr3 := Tr.trans hr3 hk32
   replace hA := hk32.new
   replace hH : Hp w.heap.size A34 w31 (obS (α := UInt32) 86 v29 s27.1 :: []) := hH35
   obtain rfl := Option.some.inj h19
   exact ⟨(s27.1, s27.2), h20, ⟨(v29, A34), ha33.sub ⟨rfl, rfl, rfl, trivial⟩, ⟨hH, hr3⟩⟩⟩
  ·rw [if_neg (nt hc25)] at h19
   obtain rfl := Option.some.inj h19
   refine C_exit (fun a ha127 => ?_)
   exact ⟨((s12.1, s12.2), v14, A16), ha127.sub ⟨rfl, trivial⟩, ⟨h20.symm, hH, hr3⟩⟩
 rintro ⟨s2, v8, A10⟩ w5 ⟨rfl, hH11, hk6⟩ a ha7
 rw [Lp.andThen_fin] at hm
 replace hK := Tr.trans hK hk6
 replace hA := hk6.new
 replace hH : Hp w.heap.size A10 w5 (obS (α := UInt32) 86 v8 s2.1 :: []) := hH11
 refine C_at (n := ⟨63, [], none⟩) (fun _ _ => rfl) ?_ ha7
 refine C_seq ?_
 refine C_region ?_
 refine V_mv rfl rfl ?_
 refine V_as rfl rfl ?_
 refine V_to (fun _ _ => rfl) ?_
 obtain rfl := Option.some.inj hm
 refine C_ret ?_
 try simp only [↓inBlock_ret, ↓then_ret]
 exact retQ rfl (Res.one Tryz.results24 rfl) ⟨v8, rfl, (Hp.ownd hH (i := 0) rfl), hK.kp⟩

set_option maxRecDepth 4000 in
set_option maxHeartbeats 4000000 in
theorem portref2_ratOf_c (w : World) {A : Nat → Prop} (hA : ∀ b, w.heap.size ≤ b → A b) (r_ : staff_Ratio) {r : portref2_ratio} (hm : portref2_ratOf r_ = some r) : Ret Tryz.prog 23 #[.agg #[.string r_.num, .string r_.den]] w fun v w' => ∃ s0 s1, v = .agg #[s0, s1] ∧ Sl A w' s0 r.num ∧ Sl A w' s1 r.den ∧ Kp Dw w w' := by
 unfold portref2_ratOf at hm
 refine enter Tryz.func23 rfl Tryz.ntmps23 rfl ?_
 have hA0 := hA
 have hB := Nat.le_refl w.heap.size
 have hK : Tr Dw w.heap.size A w A w := Tr.refl (Dw := Dw) hA
 have hH : Hp w.heap.size A w [] := Hp.nil
 refine C_seq ?_
 refine C_region ?_
 refine V_box rfl rfl ?_
 intro b1 w2 h3
 have hk5 := h3.kp (Dw := Dw)
 have h4 : El (α := staff_Ratio) A w2 b1 0 r_ := h3.el hA ⟨[.string r_.num], _, rfl, rfl, rfl⟩
 have ht6 := Kp.tr hk5 hA hB
 replace hH := Hp.kp hH hk5
 replace hK := Tr.trans hK ht6
 replace hB := Nat.le_trans hB ht6.ex.size
 replace hA := ht6.new
 refine V_allocH (Dw := Dw) (B := w.heap.size) hH Tryz.zeroValue41 hB hA rfl ?_
 intro b7 w9 A10 hH11 ht12
 replace h4 := El.tr h4 ht12
 replace hK := Tr.trans hK ht12
 replace hB := Nat.le_trans hB ht12.ex.size
 replace hA := ht12.new
 replace hH : Hp w.heap.size A10 w9 (obC b7 [.slice none 0 0, .slice none 0 0] 41 :: []) := hH11
 refine V_to (fun _ _ => rfl) ?_
 refine C_seq ?_
 refine C_region_ch (Dw := Dw) A10 8 [(1, 0), (1, 1), (1, 3), (1, 4), (2, 2), (2, 5), (2, 6), (4, 7)] Tryz_mixed (by kernel_rfl) (fun w13 hk14 => ?_)
 have ht15 := Kp.tr hk14 hA hB
 replace hH := Hp.kp hH hk14
 replace h4 := El.tr h4 ht15
 replace hK := Tr.trans hK ht15
 replace hB := Nat.le_trans hB ht15.ex.size
 replace hA := ht15.new
 refine CH_q2 (Dw := Dw) rfl ?_
 have h16 := El_staff_Ratio_0 h4
 refine VQ_y (fun w' hw' => Y_fieldAddr Tryz.underlying23 rfl Tryz.sizeOf9 (by decide) rfl) rfl rfl rfl ?_
 refine VQ_CH (Dw := Dw) ?_
 refine CH_q2 (Dw := Dw) rfl ?_
 refine VQ_y (fun w' hw' => Y_load (El.str (El.keep h16 (XA.ex hw'))) Tryz.isAgg9 rfl) rfl rfl rfl ?_
 refine VQ_CH (Dw := Dw) ?_
 refine CH_q2 (Dw := Dw) rfl ?_
 have h17 := El_staff_Ratio_1 h4
 refine VQ_y (fun w' hw' => Y_fieldAddr Tryz.underlying23 rfl Tryz.sizeOf9 (by decide) rfl) rfl rfl rfl ?_
 refine VQ_CH (Dw := Dw) ?_
 refine CH_q2 (Dw := Dw) rfl ?_
 refine VQ_y (fun w' hw' => Y_load (El.str (El.keep h17 (XA.ex hw'))) Tryz.isAgg9 rfl) rfl rfl rfl ?_
 refine VQ_CH (Dw := Dw) ?_
 refine CH_l1 (Dw := Dw) (k := 0) rfl ?_
 obtain ⟨x18, hx18, hm⟩ := Option.bind_eq_some_iff.1 hm
 refine V_call Tryz.call24 rfl rfl rfl rfl (portref2_wholeText_c (Dw := Dw) w13 hA r_.num hx18) ?_
 rintro v19 w21 ⟨_, rfl, h20, hk22⟩
 obtain ⟨A23, ht24, hH25⟩ := Hp.addOwnd (Dw := Dw) hH hB hA hk22 h20
 replace hK := Tr.trans hK ht24
 replace hB := Nat.le_trans hB ht24.ex.size
 replace hA := ht24.new
 replace hH : Hp w.heap.size A23 w21 (obS (α := UInt32) 86 v19 x18 :: obC b7 [.slice none 0 0, .slice none 0 0] 41 :: []) := hH25
 refine V_CH (Dw := Dw) (hk22) ?_
 refine CH_l1 (Dw := Dw) (k := 0) rfl ?_
 obtain ⟨x26, hx26, hm⟩ := Option.bind_eq_some_iff.1 hm
 refine V_call Tryz.call24 rfl rfl rfl rfl (portref2_wholeText_c (Dw := Dw) w21 hA r_.den hx26) ?_
 rintro v27 w29 ⟨_, rfl, h28, hk30⟩
 obtain ⟨A31, ht32, hH33⟩ := Hp.addOwnd (Dw := Dw) hH hB hA hk30 h28
 replace hK := Tr.trans hK ht32
 replace hB := Nat.le_trans hB ht32.ex.size
 replace hA := ht32.new
 replace hH : Hp w.heap.size A31 w29 (obS (α := UInt32) 86 v27 x26 :: obS (α := UInt32) 86 v19 x18 :: obC b7 [.slice none 0 0, .slice none 0 0] 41 :: []) := hH33
 refine V_CH (Dw := Dw) (hk30) ?_
 refine CH_l1 (Dw := Dw) (k := 0) rfl ?_
 obtain ⟨A34, ht35, h36, hH37⟩ := Hp.freeze (Dw := Dw) (α := UInt32) (v := v19) (l := x18) hH (i := 1) rfl hA
 replace hK := Tr.trans hK ht35
 replace hB := Nat.le_trans hB ht35.ex.size
 replace hA := ht35.new
 replace hH : Hp w.heap.size A34 w29 (obS (α := UInt32) 86 v27 x26 :: obC b7 [.slice none 0 0, .slice none 0 0] 41 :: []) := hH37
 obtain ⟨A39, ht40, h41, hH42⟩ := Hp.freeze (Dw := Dw) (α := UInt32) (v := v27) (l := x26) hH (i := 0) rfl hA
 replace h36 := Sl.tr h36 ht40
 replace hK := Tr.trans hK ht40
 replace hB := Nat.le_trans hB ht40.ex.size
 replace hA := ht40.new
 replace hH : Hp w.heap.size A39 w29 (obC b7 [.slice none 0 0, .slice none 0 0] 41 :: []) := hH42
 obtain ⟨x44, hx44, hm⟩ := Option.bind_eq_some_iff.1 hm
 refine V_call Tryz.call31 rfl rfl rfl rfl (portref2_lowest_c (Dw := Dw) w29 hA x18 v19 h36 x26 v27 h41 hx44) ?_
 rintro _ w49 ⟨v45, v47, rfl, h46, h48, hk50⟩
 have ht51 := Kp.tr hk50 hA hB
 replace hH := Hp.kp hH hk50
 replace hK := Tr.trans hK ht51
 replace hB := Nat.le_trans hB ht51.ex.size
 replace hA := ht51.new
 refine V_CH (Dw := Dw) (hk50) ?_
 refine CH_l1 (Dw := Dw) (k := 2) rfl ?_
 have h57 : (v45).oneCell' = true := by obtain ⟨_, _, e, _⟩ := Sl.form h46; rw [e]; rfl
 have h60 : (v47).oneCell' = true := by obtain ⟨_, _, e, _⟩ := Sl.form h48; rw [e]; rfl
 refine V_storeC (Dw := Dw) (off := 0) (ds := [v45, v47]) hH (i := 0) rfl Tryz.sizeOf41 rfl (Nat.le_of_ble_eq_true rfl) (by exact (List.forall_mem_cons.2 ⟨h57, (List.forall_mem_cons.2 ⟨h60, (fun _ h => nomatch h)⟩)⟩)) rfl hB hA rfl rfl ?_
 intro w52 hH53 ht54
 replace h46 := Sl.tr h46 ht54
 replace h48 := Sl.tr h48 ht54
 replace hK := Tr.trans hK ht54
 replace hH : Hp w.heap.size A39 w52 (obC b7 [v45, v47] 41 :: []) := hH53
 refine V_CHw (Dw := Dw) ?_
 refine CH_tail (Dw := Dw) ?_
 show V _ _ _ _ [] _ _
 refine V_to (fun _ _ => rfl) ?_
 obtain rfl := Option.some.inj hm
 refine C_ret ?_
 try simp only [↓inBlock_ret, ↓then_ret]
 exact retQ rfl (Res.l1 Tryz.results23 (RL.cell rfl (loadVar_agg (Hp.part (off := 0) (n := 2) (ds := [v45, v47]) hH (i := 0) rfl rfl) Tryz.isAgg41 Tryz.sizeOf41))) ⟨v45, v47, rfl, (Sl.out (Dw := Dw) h46 hA0 hK), (Sl.out (Dw := Dw) h48 hA0 hK), hK.kp⟩

set_option maxRecDepth 4000 in
set_option maxHeartbeats 4000000 in
theorem portref2_RatioFault_c (w : World) {A : Nat → Prop} (hA : ∀ b, w.heap.size ≤ b → A b) (r_ : staff_Ratio) {r : Int} (hm : portref2_RatioFault r_ = some r) : Ret Tryz.prog 22 #[.agg #[.string r_.num, .string r_.den]] w fun v w' => v = .int .i64 r ∧ Kp False w w' := by
 unfold portref2_RatioFault at hm
 refine enter Tryz.func22 rfl Tryz.ntmps22 rfl ?_
 have hA0 := hA
 have hB := Nat.le_refl w.heap.size
 have hK : Tr False w.heap.size A w A w := Tr.refl (Dw := False) hA
 have hH : Hp w.heap.size A w [] := Hp.nil
 refine C_seq ?_
 refine C_region ?_
 refine V_box rfl rfl ?_
 intro b1 w2 h3
 have hk5 := h3.kp (Dw := False)
 have h4 : El (α := staff_Ratio) A w2 b1 0 r_ := h3.el hA ⟨[.string r_.num], _, rfl, rfl, rfl⟩
 have ht6 := Kp.tr (Dw := False) hk5 hA hB
 replace hH := Hp.kp (Dw := False) hH hk5
 replace hK := Tr.trans (Dw := False) hK ht6
 replace hB := Nat.le_trans hB ht6.ex.size
 replace hA := ht6.new
 refine V_as rfl rfl ?_
 refine V_to (fun _ _ => rfl) ?_
 refine C_seq ?_
 refine C_block ?_
 refine C_seq ?_
 refine C_region ?_
 have h7 := El_staff_Ratio_0 h4
 refine V_y (Y_fieldAddr Tryz.underlying23 rfl Tryz.sizeOf9 (by decide) rfl) rfl rfl rfl ?_
 refine V_y (Y_load (El.str h7) Tryz.isAgg9 rfl) rfl rfl rfl ?_
 refine V_y (Y_lenStr rfl Tryz.underlying9 rfl) rfl rfl rfl ?_
 refine V_y (Y_gtr rfl rfl) rfl rfl rfl ?_
 refine V_mv rfl rfl ?_
 refine V_cut 5 (fun _ : Unit => [(1, .pointer (some ⟨b1, 0, none⟩)), (13, .bool ((decide ((20000 : Int) < (r_.num.size : Int))) || (decide ((20000 : Int) < (r_.den.size : Int)))))]) (fun _ w' => w2 = w') ?_ ?_
 ·simp only [List.take, List.drop]
  rcases Bool.eq_false_or_eq_true (decide ((20000 : Int) < (r_.num.size : Int))) with hc8 | hc8
  ·refine V_gn rfl rfl rfl hc8 rfl rfl rfl ?_
   refine V_gn rfl rfl rfl hc8 rfl rfl rfl ?_
   refine V_gn rfl rfl rfl hc8 rfl rfl rfl ?_
   refine V_gn rfl rfl rfl hc8 rfl rfl rfl ?_
   refine V_y (Y_pick_te rfl hc8 rfl) rfl rfl rfl ?_
   exact V_end fun a ha => ⟨(), ha.sub ⟨rfl, (by rw [hc8]; rfl), trivial⟩, rfl⟩
  ·refine V_ge rfl rfl rfl hc8 ?_
   have h10 := El_staff_Ratio_1 h4
   refine V_y (Y_fieldAddr Tryz.underlying23 rfl Tryz.sizeOf9 (by decide) rfl) rfl rfl rfl ?_
   refine V_ge rfl rfl rfl hc8 ?_
   refine V_y (Y_load (El.str h10) Tryz.isAgg9 rfl) rfl rfl rfl ?_
   refine V_ge rfl rfl rfl hc8 ?_
   refine V_y (Y_lenStr rfl Tryz.underlying9 rfl) rfl rfl rfl ?_
   refine V_ge rfl rfl rfl hc8 ?_
   refine V_y (Y_gtr rfl rfl) rfl rfl rfl ?_
   refine V_y (Y_pick_fe rfl hc8 rfl) rfl rfl rfl ?_
   exact V_end fun a ha => ⟨(), ha.sub ⟨rfl, (by rw [hc8]; rfl), trivial⟩, rfl⟩
 simp only [List.take, List.drop]
 rintro _ _ rfl
 refine V_as rfl rfl ?_
 refine V_to (fun _ _ => rfl) ?_
 refine C_cond rfl (fun hc11 => ?_) (fun hc11 => ?_)
 ·rw [if_pos hc11] at hm
  refine C_seq ?_
  refine C_region ?_
  refine V_as rfl rfl ?_
  refine V_to (fun _ _ => rfl) ?_
  obtain rfl := Option.some.inj hm
  refine C_ret ?_
  try simp only [↓inBlock_ret, ↓then_ret]
  exact retQ rfl (Res.one Tryz.results22 rfl) ⟨rfl, hK.kp⟩
 ·rw [if_neg (nt hc11)] at hm
  refine C_seq ?_
  obtain ⟨s13, ho12, hm⟩ := Option.bind_eq_some_iff.1 hm
  refine C_cutG (ι := (Nat → Prop)) (fun (A18 : (Nat → Prop)) => [(1, .pointer (some ⟨b1, 0, none⟩)), (14, .bool s13)]) (fun (A18 : (Nat → Prop)) => fun w' => Hp w.heap.size A18 w' ([]) ∧ Tr False w.heap.size A w2 A18 w') ?_ ?_
  ·have hr14 : Tr False w.heap.size A w2 A w2 := Tr.refl (Dw := False) hA
   refine C_region ?_
   have h20 := El_staff_Ratio_0 h4
   refine V_y (Y_fieldAddr Tryz.underlying23 rfl Tryz.sizeOf9 (by decide) rfl) rfl rfl rfl ?_
   refine V_y (Y_load (El.str h20) Tryz.isAgg9 rfl) rfl rfl rfl ?_
   obtain ⟨x21, hx21, ho12⟩ := Option.bind_eq_some_iff.1 ho12
   refine V_call Tryz.call47 rfl rfl rfl rfl (portref2_digitString_c w2 hA r_.num hx21) ?_
   rintro _ w22 ⟨rfl, hk23⟩
   have ht24 := Kp.tr (Dw := False) hk23 hA hB
   replace hH := Hp.kp (Dw := False) hH hk23
   replace h4 := El.tr (Dw := False) h4 ht24
   replace hr14 := Tr.trans (Dw := False) hr14 ht24
   replace hB := Nat.le_trans hB ht24.ex.size
   replace hA := ht24.new
   refine V_y (Y_not rfl) rfl rfl rfl ?_
   refine V_mv rfl rfl ?_
   rcases Bool.eq_false_or_eq_true (!x21) with hc25 | hc25
   ·rw [if_pos hc25] at ho12
    refine V_gn rfl rfl rfl hc25 rfl rfl rfl ?_
    refine V_gn rfl rfl rfl hc25 rfl rfl rfl ?_
    refine V_gn rfl rfl rfl hc25 rfl rfl rfl ?_
    refine V_gn rfl rfl rfl hc25 rfl rfl rfl ?_
    refine V_y (Y_pick_te rfl hc25 rfl) rfl rfl rfl ?_
    refine V_as rfl rfl ?_
    obtain rfl := Option.some.inj ho12
    refine V_end (fun a ha26 => ?_)
    exact ⟨A, ha26.sub ⟨rfl, rfl, trivial⟩, ⟨hH, hr14⟩⟩
   ·rw [if_neg (nt hc25)] at ho12
    refine V_ge rfl rfl rfl hc25 ?_
    have h27 := El_staff_Ratio_1 h4
    refine V_y (Y_fieldAddr Tryz.underlying23 rfl Tryz.sizeOf9 (by decide) rfl) rfl rfl rfl ?_
    refine V_ge rfl rfl rfl hc25 ?_
    refine V_y (Y_load (El.str h27) Tryz.isAgg9 rfl) rfl rfl rfl ?_
    refine V_ge rfl rfl rfl hc25 ?_
    obtain ⟨x28, hx28, ho12⟩ := Option.bind_eq_some_iff.1 ho12
    refine V_call Tryz.call47 rfl rfl rfl rfl (portref2_digitString_c w22 hA r_.den hx28) ?_
    rintro _ w29 ⟨rfl, hk30⟩
    have ht31 := Kp.tr (Dw := False) hk30 hA hB
    replace hH := Hp.kp (Dw := False) hH hk30
    replace hr14 := Tr.trans (Dw := False) hr14 ht31
    refine V_ge rfl rfl rfl hc25 ?_
    refine V_y (Y_not rfl) rfl rfl rfl ?_
    refine V_y (Y_pick_fe rfl hc25 rfl) rfl rfl rfl ?_
    refine V_as rfl rfl ?_
    obtain rfl := Option.some.inj ho12
    refine V_end (fun a ha32 => ?_)
    exact ⟨A, ha32.sub ⟨rfl, rfl, trivial⟩, ⟨hH, hr14⟩⟩
  rintro A18 w15 ⟨hH19, hk16⟩ a ha17
  replace h4 := El.tr (Dw := False) h4 hk16
  replace hK := Tr.trans (Dw := False) hK hk16
  replace hB := Nat.le_trans hB hk16.ex.size
  replace hA := hk16.new
  replace hH : Hp w.heap.size A18 w15 ([]) := hH19
  refine C_at (n := ⟨35, [], none⟩) (fun _ _ => rfl) ?_ ha17
  refine C_cond rfl (fun hc33 => ?_) (fun hc33 => ?_)
  ·rw [if_pos hc33] at hm
   refine C_seq ?_
   refine C_region ?_
   refine V_as rfl rfl ?_
   refine V_to (fun _ _ => rfl) ?_
   obtain rfl := Option.some.inj hm
   refine C_ret ?_
   try simp only [↓inBlock_ret, ↓then_ret]
   exact retQ rfl (Res.one Tryz.results22 rfl) ⟨rfl, hK.kp⟩
  ·rw [if_neg (nt hc33)] at hm
   refine C_seq ?_
   refine C_region ?_
   have h34 := El_staff_Ratio_1 h4
   refine V_y (Y_fieldAddr Tryz.underlying23 rfl Tryz.sizeOf9 (by decide) rfl) rfl rfl rfl ?_
   refine V_y (Y_load (El.str h34) Tryz.isAgg9 rfl) rfl rfl rfl ?_
   refine V_y (Y_seql rfl rfl) rfl rfl rfl ?_
   refine V_as rfl rfl ?_
   refine V_to (fun _ _ => rfl) ?_
   refine C_cond rfl (fun hc35 => ?_) (fun hc35 => ?_)
   ·rw [if_pos hc35] at hm
    refine C_seq ?_
    refine C_region ?_
    refine V_as rfl rfl ?_
    refine V_to (fun _ _ => rfl) ?_
    obtain rfl := Option.some.inj hm
    refine C_ret ?_
    try simp only [↓inBlock_ret, ↓then_ret]
    exact retQ rfl (Res.one Tryz.results22 rfl) ⟨rfl, hK.kp⟩
   ·rw [if_neg (nt hc35)] at hm
    refine C_seq ?_
    refine C_region_ch (Dw := False) A18 6 [(1, 0), (1, 3), (2, 1), (2, 2), (1, 4), (1, 5)] Tryz_mixed (by kernel_rfl) (fun w36 hk37 => ?_)
    have ht38 := Kp.tr (Dw := False) hk37 hA hB
    replace h4 := El.tr (Dw := False) h4 ht38
    replace hK := Tr.trans (Dw := False) hK ht38
    replace hB := Nat.le_trans hB ht38.ex.size
    replace hA := ht38.new
    refine CH_q2 (Dw := False) rfl ?_
    obtain ⟨h39, _⟩ := El_staff_Ratio h4
    refine VQ_y (fun w' hw' => Y_loadA (At.same h39 (hw'.2 _ h4.2.1 h4.1)) Tryz.isAgg23 Tryz.sizeOf23 rfl) rfl rfl rfl ?_
    refine VQ_CH (Dw := False) ?_
    refine CH_q2 (Dw := False) rfl ?_
    obtain ⟨h40, _⟩ := El_staff_Ratio h4
    refine VQ_y (fun w' hw' => Y_loadA (At.same h40 (hw'.2 _ h4.2.1 h4.1)) Tryz.isAgg23 Tryz.sizeOf23 rfl) rfl rfl rfl ?_
    refine VQ_CH (Dw := False) ?_
    refine CH_l1 (Dw := False) (k := 0) rfl ?_
    obtain ⟨x41, hx41, hm⟩ := Option.bind_eq_some_iff.1 hm
    refine V_call Tryz.call23 rfl rfl rfl rfl (portref2_ratOf_c (Dw := False) w36 hA r_ hx41) ?_
    rintro _ w46 ⟨v42, v44, rfl, h43, h45, hk47⟩
    have ht48 := Kp.tr (Dw := False) hk47 hA hB
    replace hK := Tr.trans (Dw := False) hK ht48
    replace hB := Nat.le_trans hB ht48.ex.size
    replace hA := ht48.new
    refine V_CH (Dw := False) (hk47) ?_
    refine CH_l1 (Dw := False) (k := 0) rfl ?_
    obtain ⟨x49, hx49, hm⟩ := Option.bind_eq_some_iff.1 hm
    refine V_call Tryz.call11 rfl rfl rfl rfl (portref2_ratioOf_c (Dw := False) w46 hA x41 v42 h43 v44 h45 hx49) ?_
    rintro _ w50 ⟨rfl, hk51⟩
    have ht52 := Kp.tr (Dw := False) hk51 hA hB
    replace hK := Tr.trans (Dw := False) hK ht52
    refine V_CH (Dw := False) (hk51) ?_
    refine CH_q2 (Dw := False) rfl ?_
    refine VQ_y (fun w' hw' => Y_neqA (fun w => Tryz_eqt23_10000 x49.num x49.den r_.num r_.den w) Tryz_eqg23 rfl rfl) rfl rfl rfl ?_
    refine VQ_CH (Dw := False) ?_
    refine CH_q2 (Dw := False) rfl ?_
    refine VQ_y (fun w' hw' => Y_assign rfl) rfl rfl rfl ?_
    refine VQ_CH (Dw := False) ?_
    refine CH_tail (Dw := False) ?_
    show V _ _ _ _ [] _ _
    refine V_to (fun _ _ => rfl) ?_
    refine C_cond rfl (fun hc53 => ?_) (fun hc53 => ?_)
    ·rw [if_pos hc53] at hm
     refine C_seq ?_
     refine C_region ?_
     refine V_as rfl rfl ?_
     refine V_to (fun _ _ => rfl) ?_
     obtain rfl := Option.some.inj hm
     refine C_ret ?_
     try simp only [↓inBlock_ret, ↓then_ret]
     exact retQ rfl (Res.one Tryz.results22 rfl) ⟨rfl, hK.kp⟩
    ·rw [if_neg (nt hc53)] at hm
     refine C_skip_to (fun _ _ => rfl) ?_
     refine C_seq ?_
     refine C_region ?_
     refine V_as rfl rfl ?_
     refine V_to (fun _ _ => rfl) ?_
     obtain rfl := Option.some.inj hm
     refine C_ret ?_
     try simp only [↓inBlock_ret, ↓then_ret]
     exact retQ rfl (Res.one Tryz.results22 rfl) ⟨rfl, hK.kp⟩

set_option maxRecDepth 4000 in
set_option maxHeartbeats 4000000 in
theorem portref2_whole_plus_c (w : World) {A : Nat → Prop} (hA : ∀ b, w.heap.size ≤ b → A b) (a_ : (List UInt32)) (v_a_ : Value) (h_a_ : Sl A w v_a_ a_) (b : (List UInt32)) (v_b : Value) (h_b : Sl A w v_b b) {r : (List UInt32)} (hm : portref2_whole_plus a_ b = some r) : Ret Tryz.prog 25 #[v_a_, v_b] w fun v w' => ∃ s0, v = s0 ∧ Ownd 86 w w' s0 r ∧ Kp Dw w w' := by
 unfold portref2_whole_plus at hm
 refine enter Tryz.func25 rfl Tryz.ntmps25 rfl ?_
 have hA0 := hA
 have hB := Nat.le_refl w.heap.size
 have hK : Tr Dw w.heap.size A w A w := Tr.refl (Dw := Dw) hA
 have hH : Hp w.heap.size A w [] := Hp.nil
 refine C_seq ?_
 refine C_region ?_
 refine V_as rfl rfl ?_
 refine V_to (fun _ _ => rfl) ?_
 refine C_seq ?_
 refine C_seq ?_
 refine C_region ?_
 refine V_mv rfl rfl ?_
 refine V_y (Y_lenSl h_a_ rfl Tryz.underlying39 rfl) rfl rfl rfl ?_
 refine V_mv rfl rfl ?_
 refine V_y (Y_lenSl h_b rfl Tryz.underlying39 rfl) rfl rfl rfl ?_
 refine V_y (Y_lss rfl rfl) rfl rfl rfl ?_
 refine V_to (fun _ _ => rfl) ?_
 obtain ⟨s6, ho5, hm⟩ := Option.bind_eq_some_iff.1 hm
 refine C_cutG (ι := (Value × Value)) (fun ⟨v8, v10⟩ => [(0, v8), (1, v10)]) (fun ⟨v8, v10⟩ => fun w' => Sl A w' v8 s6.1 ∧ Sl A w' v10 s6.2 ∧ w = w') ?_ ?_
 ·refine C_cond rfl (fun hc15 => ?_) (fun hc15 => ?_)
  ·rw [if_pos hc15] at ho5
   refine C_region ?_
   refine V_mv rfl rfl ?_
   refine V_mv rfl rfl ?_
   refine V_as rfl rfl ?_
   refine V_as rfl rfl ?_
   obtain rfl := Option.some.inj ho5
   refine V_end (fun a ha16 => ?_)
   exact ⟨(v_b, v_a_), ha16.sub ⟨rfl, rfl, trivial⟩, ⟨h_b, h_a_, rfl⟩⟩
  ·rw [if_neg (nt hc15)] at ho5
   obtain rfl := Option.some.inj ho5
   refine C_skip (fun a ha17 => ?_)
   exact ⟨(v_a_, v_b), ha17.sub ⟨rfl, rfl, trivial⟩, ⟨h_a_, h_b, rfl⟩⟩
 rintro ⟨v8, v10⟩ _ ⟨h9, h11, rfl⟩ a ha14
 refine C_at (n := ⟨56, [], none⟩) (fun _ _ => rfl) ?_ ha14
 refine C_seq ?_
 refine C_region ?_
 refine V_mv rfl rfl ?_
 refine V_y (Y_lenSl h9 rfl Tryz.underlying39 rfl) rfl rfl rfl ?_
 refine V_y (Y_addI rfl rfl) rfl rfl rfl ?_
 obtain ⟨x18, hx18, hm⟩ := Option.bind_eq_some_iff.1 hm
 refine V_makeCH (Dw := Dw) (e := 86) (ti := Tryz.t86) hH hx18 (fun _ _ => rfl) Tryz.underlying39 Tryz_info86 rfl rfl rfl (by decide) (by decide) hB hA rfl rfl rfl ?_
 intro v19 w20 A21 hH22 ht23
 replace h9 := Sl.tr h9 ht23
 replace h11 := Sl.tr h11 ht23
 replace hK := Tr.trans hK ht23
 replace hB := Nat.le_trans hB ht23.ex.size
 replace hA := ht23.new
 replace hH : Hp w.heap.size A21 w20 (obS (α := UInt32) 86 v19 x18 :: []) := hH22
 refine V_as rfl rfl ?_
 refine V_to (fun _ _ => rfl) ?_
 refine C_seq ?_
 refine C_region ?_
 refine V_as rfl rfl ?_
 refine V_to (fun _ _ => rfl) ?_
 refine C_seq ?_
 refine C_seq ?_
 refine C_region ?_
 refine V_mv rfl rfl ?_
 refine V_y (Y_lenSl h9 rfl Tryz.underlying39 rfl) rfl rfl rfl ?_
 refine V_mv rfl rfl ?_
 refine V_to (fun _ _ => rfl) ?_
 have hn48 := Sl.le h9
 obtain ⟨o24, ho24, hm⟩ := Option.bind_eq_some_iff.1 hm
 refine C_cutG (ι := (((List UInt32) × Int) × Value × (Nat → Prop))) (fun ⟨s25, v31, A33⟩ => [(5, v31), (6, .int .u64 s25.2)]) (fun ⟨s25, v31, A33⟩ => fun w' => o24 = .fin s25 ∧ Hp w.heap.size A33 w' (obS (α := UInt32) 86 v31 s25.1 :: []) ∧ Tr Dw w.heap.size A21 w20 A33 w') ?_ ?_
 ·refine C_block ?_
  refine C_range ho24 (fun k27 s35 a w' => ∃ i : (Value × (Nat → Prop)), Has ⟨56, [], none⟩ a ([(0, v8), (1, v10), (5, i.1), (6, .int .u64 s35.2), (20, .int .i64 (s6.1.length : Int)), (21, .int .i64 (k27 : Int))]) ∧ Hp w.heap.size i.2 w' (obS (α := UInt32) 86 i.1 s35.1 :: []) ∧ Tr Dw w.heap.size A21 w20 i.2 w') (fun a ha => ⟨(v19, A21), ha.sub ⟨rfl, rfl, rfl, rfl, rfl, rfl, trivial⟩, ⟨hH, Tr.refl (Dw := Dw) hA⟩⟩) ?_
  rintro K k27 s35 a w36 ⟨⟨v37, A39⟩, ha82, hH40, hr26⟩ hle44 K47 h46
  refine C_of ?_ ha82
  replace h9 := Sl.tr h9 hr26
  replace h11 := Sl.tr h11 hr26
  replace hB := Nat.le_trans hB hr26.ex.size
  replace hA := hr26.new
  replace hH : Hp w.heap.size A39 w36 (obS (α := UInt32) 86 v37 s35.1 :: []) := hH40
  refine C_seq (C_region (V_y (Y_lss rfl rfl) rfl rfl rfl (V_to (fun _ _ => rfl) ?_)))
  refine C_seq ?_
  refine C_cond rfl (fun hc49 => ?_) (fun hc49 => ?_)
  ·have hlt45 := lt_of_dec hc49
   obtain ⟨x41, h42, h43⟩ := K47 hlt45
   refine C_skip_to (fun _ _ => rfl) ?_
   refine C_seq ?_
   refine C_block ?_
   refine C_seq ?_
   refine C_region ?_
   refine V_mv rfl rfl ?_
   refine V_as rfl rfl ?_
   refine V_to (fun _ _ => rfl) ?_
   refine C_seq ?_
   refine C_region ?_
   refine V_mv rfl rfl ?_
   refine V_mv rfl rfl ?_
   refine V_mv rfl rfl ?_
   obtain ⟨x50, hx50, h42⟩ := Option.bind_eq_some_iff.1 h42
   refine V_indexAddr h9 hx50 Tryz.underlying39 Tryz.sizeOf86 rfl rfl rfl ?_
   intro b51 o52 h53
   refine V_y (Y_load (El.u32 h53) Tryz.isAgg86 rfl) rfl rfl rfl ?_
   refine V_y (Y_convI Tryz.underlying86 Tryz.underlying85 rfl) rfl rfl rfl ?_
   refine V_y (Y_add rfl rfl) rfl rfl rfl ?_
   refine V_as rfl rfl ?_
   refine V_to (fun _ _ => rfl) ?_
   refine C_seq ?_
   refine C_seq ?_
   refine C_region ?_
   refine V_mv rfl rfl ?_
   refine V_mv rfl rfl ?_
   refine V_y (Y_lenSl h11 rfl Tryz.underlying39 rfl) rfl rfl rfl ?_
   refine V_y (Y_lss rfl rfl) rfl rfl rfl ?_
   refine V_to (fun _ _ => rfl) ?_
   obtain ⟨s55, ho54, h42⟩ := Option.bind_eq_some_iff.1 h42
   refine C_cutG (ι := Unit) (fun (_ : Unit) => [(0, v8), (1, v10), (5, v37), (6, .int .u64 s55), (20, .int .i64 (s6.1.length : Int)), (21, .int .i64 (k27 : Int))]) (fun (_ : Unit) => fun w' => w36 = w') ?_ ?_
   ·refine C_cond rfl (fun hc60 => ?_) (fun hc60 => ?_)
    ·rw [if_pos hc60] at ho54
     refine C_region ?_
     refine V_mv rfl rfl ?_
     refine V_mv rfl rfl ?_
     refine V_mv rfl rfl ?_
     obtain ⟨x61, hx61, ho54⟩ := Option.bind_eq_some_iff.1 ho54
     refine V_indexAddr h11 hx61 Tryz.underlying39 Tryz.sizeOf86 rfl rfl rfl ?_
     intro b62 o63 h64
     refine V_y (Y_load (El.u32 h64) Tryz.isAgg86 rfl) rfl rfl rfl ?_
     refine V_y (Y_convI Tryz.underlying86 Tryz.underlying85 rfl) rfl rfl rfl ?_
     refine V_y (Y_add rfl rfl) rfl rfl rfl ?_
     refine V_as rfl rfl ?_
     obtain rfl := Option.some.inj ho54
     refine V_end (fun a ha65 => ?_)
     exact ⟨(), ha65.sub ⟨rfl, rfl, rfl, rfl, rfl, rfl, trivial⟩, rfl⟩
    ·rw [if_neg (nt hc60)] at ho54
     obtain rfl := Option.some.inj ho54
     refine C_skip (fun a ha66 => ?_)
     exact ⟨(), ha66.sub ⟨rfl, rfl, rfl, rfl, rfl, rfl, trivial⟩, rfl⟩
   rintro _ _ rfl a ha59
   refine C_at (n := ⟨56, [], none⟩) (fun _ _ => rfl) ?_ ha59
   refine C_seq ?_
   refine C_region ?_
   refine V_mv rfl rfl ?_
   refine V_mv rfl rfl ?_
   refine V_y (Y_convU32 Tryz.underlying85 Tryz.underlying86 rfl) rfl rfl rfl ?_
   refine V_buildSlice (Dw := Dw) (cells := #[.int .u32 ((toU32 s55).toNat : Int)]) (l := ([(toU32 s55)] : List UInt32)) (len := 1) Tryz.underlying39 Tryz.sizeOf86 Tryz.zeroValue86 rfl (by generalize (((toU32 s55).toNat : Int) : Int) = z71; kernel_rfl) (show (1 * 1 : Nat) ≠ 0 by decide) (show (1 * 1 : Nat) ≤ 2 ^ 24 by decide) hA ⟨[.int .u32 ((toU32 s55).toNat : Int)], _, rfl, rfl, rfl⟩ rfl rfl ?_
   intro v67 w68 hk70 h69
   have ht72 := Kp.tr hk70 hA hB
   replace hH := Hp.kp hH hk70
   replace hr26 := Tr.trans hr26 ht72
   replace hB := Nat.le_trans hB ht72.ex.size
   replace hA := ht72.new
   obtain ⟨x73, hx73, h42⟩ := Option.bind_eq_some_iff.1 h42
   refine V_appendH (Dw := Dw) (e := 86) (v := v37) (l := s35.1) (ti := Tryz.t86) (bytes := 4) (lim := 35184372088832) hH (i := 0) rfl h69 hx73 Tryz.underlying39 Tryz_info86 rfl rfl rfl rfl (by decide) (by decide) (by decide) hB hA rfl rfl rfl ?_
   intro v74 w75 A76 hH77 ht78
   replace hr26 := Tr.trans hr26 ht78
   replace hH : Hp w.heap.size A76 w75 (obS (α := UInt32) 86 v74 x73 :: []) := hH77
   refine V_as rfl rfl ?_
   refine V_to (fun _ _ => rfl) ?_
   refine C_region ?_
   refine V_mv rfl rfl ?_
   obtain ⟨x79, hx79, h42⟩ := Option.bind_eq_some_iff.1 h42
   refine V_y (Y_shr hx79 rfl rfl) rfl rfl rfl ?_
   refine V_as rfl rfl ?_
   refine V_to (fun _ _ => rfl) ?_
   refine C_region ?_
   refine V_y (Y_addI rfl rfl) rfl rfl rfl ?_
   refine V_mv rfl rfl ?_
   obtain rfl := Option.some.inj h42
   refine V_end (fun a ha80 => ?_)
   exact ⟨(x73, x79), hlt45, h43, ⟨(v74, A76), ha80.sub ⟨rfl, rfl, rfl, rfl, rfl, (congrArg (fun z => some (Value.int .i64 z)) (w64_succ hlt45 hn48)), trivial⟩, ⟨hH, hr26⟩⟩⟩
  ·refine C_exit (fun a ha81 => ?_)
   exact ⟨((s35.1, s35.2), v37, A39), ha81.sub ⟨rfl, rfl, trivial⟩, ⟨(h46 (eq_of_dec hle44 hc49)).symm, hH, hr26⟩⟩
 rintro ⟨s25, v31, A33⟩ w28 ⟨rfl, hH34, hk29⟩ a ha30
 rw [Lp.andThen_fin] at hm
 replace hK := Tr.trans hK hk29
 replace hB := Nat.le_trans hB hk29.ex.size
 replace hA := hk29.new
 replace hH : Hp w.heap.size A33 w28 (obS (α := UInt32) 86 v31 s25.1 :: []) := hH34
 refine C_at (n := ⟨56, [], none⟩) (fun _ _ => rfl) ?_ ha30
 refine C_seq ?_
 refine C_region ?_
 refine V_mv rfl rfl ?_
 refine V_mv rfl rfl ?_
 refine V_y (Y_convU32 Tryz.underlying85 Tryz.underlying86 rfl) rfl rfl rfl ?_
 refine V_buildSlice (Dw := Dw) (cells := #[.int .u32 ((toU32 s25.2).toNat : Int)]) (l := ([(toU32 s25.2)] : List UInt32)) (len := 1) Tryz.underlying39 Tryz.sizeOf86 Tryz.zeroValue86 rfl (by generalize (((toU32 s25.2).toNat : Int) : Int) = z87; kernel_rfl) (show (1 * 1 : Nat) ≠ 0 by decide) (show (1 * 1 : Nat) ≤ 2 ^ 24 by decide) hA ⟨[.int .u32 ((toU32 s25.2).toNat : Int)], _, rfl, rfl, rfl⟩ rfl rfl ?_
 intro v83 w84 hk86 h85
 have ht88 := Kp.tr hk86 hA hB
 replace hH := Hp.kp hH hk86
 replace hK := Tr.trans hK ht88
 replace hB := Nat.le_trans hB ht88.ex.size
 replace hA := ht88.new
 obtain ⟨x89, hx89, hm⟩ := Option.bind_eq_some_iff.1 hm
 refine V_appendH (Dw := Dw) (e := 86) (v := v31) (l := s25.1) (ti := Tryz.t86) (bytes := 4) (lim := 35184372088832) hH (i := 0) rfl h85 hx89 Tryz.underlying39 Tryz_info86 rfl rfl rfl rfl (by decide) (by decide) (by decide) hB hA rfl rfl rfl ?_
 intro v90 w91 A92 hH93 ht94
 replace hK := Tr.trans hK ht94
 replace hB := Nat.le_trans hB ht94.ex.size
 replace hA := ht94.new
 replace hH : Hp w.heap.size A92 w91 (obS (α := UInt32) 86 v90 x89 :: []) := hH93
 obtain ⟨x95, hx95, hm⟩ := Option.bind_eq_some_iff.1 hm
 refine V_call Tryz.call48 rfl rfl rfl rfl (portref2_whole_trim_c (Dw := Dw) w91 hB hA x89 v90 hH hx95) ?_
 rintro v96 w98 ⟨_, A99, rfl, hH100, ht101⟩
 replace hK := Tr.trans hK ht101
 replace hH : Hp w.heap.size A99 w98 (obS (α := UInt32) 86 v96 x95 :: []) := hH100
 refine V_as rfl rfl ?_
 refine V_to (fun _ _ => rfl) ?_
 obtain rfl := Option.some.inj hm
 refine C_ret ?_
 try simp only [↓inBlock_ret, ↓then_ret]
 exact retQ rfl (Res.one Tryz.results25 rfl) ⟨v96, rfl, (Hp.ownd hH (i := 0) rfl), hK.kp⟩

set_option maxRecDepth 4000 in
set_option maxHeartbeats 4000000 in
theorem portref2_whole_times_c (w : World) {A : Nat → Prop} (hA : ∀ b, w.heap.size ≤ b → A b) (a_ : (List UInt32)) (v_a_ : Value) (h_a_ : Sl A w v_a_ a_) (b : (List UInt32)) (v_b : Value) (h_b : Sl A w v_b b) {r : (List UInt32)} (hm : portref2_whole_times a_ b = some r) : Ret Tryz.prog 26 #[v_a_, v_b] w fun v w' => ∃ s0, v = s0 ∧ Ownd 86 w w' s0 r ∧ Kp Dw w w' := by
 unfold portref2_whole_times at hm
 refine enter Tryz.func26 rfl Tryz.ntmps26 rfl ?_
 have hA0 := hA
 have hB := Nat.le_refl w.heap.size
 have hK : Tr Dw w.heap.size A w A w := Tr.refl (Dw := Dw) hA
 have hH : Hp w.heap.size A w [] := Hp.nil
 refine C_seq ?_
 refine C_region ?_
 refine V_as rfl rfl ?_
 refine V_to (fun _ _ => rfl) ?_
 refine C_seq ?_
 refine C_region ?_
 refine V_mv rfl rfl ?_
 refine V_y (Y_lenSl h_a_ rfl Tryz.underlying39 rfl) rfl rfl rfl ?_
 refine V_mv rfl rfl ?_
 refine V_y (Y_lenSl h_b rfl Tryz.underlying39 rfl) rfl rfl rfl ?_
 refine V_y (Y_addI rfl rfl) rfl rfl rfl ?_
 obtain ⟨x5, hx5, hm⟩ := Option.bind_eq_some_iff.1 hm
 refine V_makeH (Dw := Dw) (e := 86) (ti := Tryz.t86) hH hx5 (fun _ _ => rfl) Tryz.underlying39 Tryz_info86 rfl rfl rfl (by decide) (by decide) hB hA rfl rfl rfl ?_
 intro v6 w7 A8 hH9 ht10
 replace h_a_ := Sl.tr h_a_ ht10
 replace h_b := Sl.tr h_b ht10
 replace hK := Tr.trans hK ht10
 replace hB := Nat.le_trans hB ht10.ex.size
 replace hA := ht10.new
 replace hH : Hp w.heap.size A8 w7 (obS (α := UInt32) 86 v6 x5 :: []) := hH9
 refine V_as rfl rfl ?_
 refine V_to (fun _ _ => rfl) ?_
 refine C_seq ?_
 refine C_seq ?_
 refine C_region ?_
 refine V_mv rfl rfl ?_
 refine V_y (Y_lenSl h_a_ rfl Tryz.underlying39 rfl) rfl rfl rfl ?_
 refine V_mv rfl rfl ?_
 refine V_to (fun _ _ => rfl) ?_
 have hn35 := Sl.le h_a_
 obtain ⟨o11, ho11, hm⟩ := Option.bind_eq_some_iff.1 hm
 refine C_cutG (ι := ((List UInt32) × Value × (Nat → Prop))) (fun ⟨s12, v18, A20⟩ => [(5, v18)]) (fun ⟨s12, v18, A20⟩ => fun w' => o11 = .fin s12 ∧ Hp w.heap.size A20 w' (obS (α := UInt32) 86 v18 s12 :: []) ∧ Tr Dw w.heap.size A8 w7 A20 w') ?_ ?_
 ·refine C_block ?_
  refine C_range ho11 (fun k14 s22 a w' => ∃ i : (Value × (Nat → Prop)), Has ⟨67, [], none⟩ a ([(0, v_a_), (1, v_b), (5, i.1), (16, .int .i64 (a_.length : Int)), (17, .int .i64 (k14 : Int))]) ∧ Hp w.heap.size i.2 w' (obS (α := UInt32) 86 i.1 s22 :: []) ∧ Tr Dw w.heap.size A8 w7 i.2 w') (fun a ha => ⟨(v6, A8), ha.sub ⟨rfl, rfl, rfl, rfl, rfl, trivial⟩, ⟨hH, Tr.refl (Dw := Dw) hA⟩⟩) ?_
  rintro K k14 s22 a w23 ⟨⟨v24, A26⟩, ha102, hH27, hr13⟩ hle31 K34 h33
  refine C_of ?_ ha102
  replace h_a_ := Sl.tr h_a_ hr13
  replace h_b := Sl.tr h_b hr13
  replace hB := Nat.le_trans hB hr13.ex.size
  replace hA := hr13.new
  replace hH : Hp w.heap.size A26 w23 (obS (α := UInt32) 86 v24 s22 :: []) := hH27
  refine C_seq (C_region (V_y (Y_lss rfl rfl) rfl rfl rfl (V_to (fun _ _ => rfl) ?_)))
  refine C_seq ?_
  refine C_cond rfl (fun hc36 => ?_) (fun hc36 => ?_)
  ·have hlt32 := lt_of_dec hc36
   obtain ⟨x28, h29, h30⟩ := K34 hlt32
   refine C_skip_to (fun _ _ => rfl) ?_
   refine C_seq ?_
   refine C_block ?_
   refine C_seq ?_
   refine C_region ?_
   refine V_mv rfl rfl ?_
   refine V_as rfl rfl ?_
   refine V_to (fun _ _ => rfl) ?_
   refine C_seq ?_
   refine C_region ?_
   refine V_as rfl rfl ?_
   refine V_to (fun _ _ => rfl) ?_
   refine C_seq ?_
   refine C_seq ?_
   refine C_region ?_
   refine V_mv rfl rfl ?_
   refine V_y (Y_lenSl h_b rfl Tryz.underlying39 rfl) rfl rfl rfl ?_
   refine V_mv rfl rfl ?_
   refine V_to (fun _ _ => rfl) ?_
   have hn61 := Sl.le h_b
   obtain ⟨o37, ho37, h29⟩ := Option.bind_eq_some_iff.1 h29
   refine C_cutG (ι := (((List UInt32) × Int) × Value × (Nat → Prop))) (fun ⟨s38, v44, A46⟩ => [(0, v_a_), (1, v_b), (5, v44), (6, .int .i64 (k14 : Int)), (7, .int .u64 s38.2), (16, .int .i64 (a_.length : Int)), (17, .int .i64 (k14 : Int))]) (fun ⟨s38, v44, A46⟩ => fun w' => o37 = .fin s38 ∧ Hp w.heap.size A46 w' (obS (α := UInt32) 86 v44 s38.1 :: []) ∧ Tr Dw w.heap.size A26 w23 A46 w') ?_ ?_
   ·refine C_block ?_
    refine C_range ho37 (fun k40 s48 a w' => ∃ i : (Value × (Nat → Prop)), Has ⟨67, [], none⟩ a ([(0, v_a_), (1, v_b), (5, i.1), (6, .int .i64 (k14 : Int)), (7, .int .u64 s48.2), (16, .int .i64 (a_.length : Int)), (17, .int .i64 (k14 : Int)), (21, .int .i64 (b.length : Int)), (22, .int .i64 (k40 : Int))]) ∧ Hp w.heap.size i.2 w' (obS (α := UInt32) 86 i.1 s48.1 :: []) ∧ Tr Dw w.heap.size A26 w23 i.2 w') (fun a ha => ⟨(v24, A26), ha.sub ⟨rfl, rfl, rfl, rfl, rfl, rfl, rfl, rfl, rfl, trivial⟩, ⟨hH, Tr.refl (Dw := Dw) hA⟩⟩) ?_
    rintro K k40 s48 a w49 ⟨⟨v50, A52⟩, ha90, hH53, hr39⟩ hle57 K60 h59
    refine C_of ?_ ha90
    replace h_a_ := Sl.tr h_a_ hr39
    replace h_b := Sl.tr h_b hr39
    replace hB := Nat.le_trans hB hr39.ex.size
    replace hA := hr39.new
    replace hH : Hp w.heap.size A52 w49 (obS (α := UInt32) 86 v50 s48.1 :: []) := hH53
    refine C_seq (C_region (V_y (Y_lss rfl rfl) rfl rfl rfl (V_to (fun _ _ => rfl) ?_)))
    refine C_seq ?_
    refine C_cond rfl (fun hc62 => ?_) (fun hc62 => ?_)
    ·have hlt58 := lt_of_dec hc62
     obtain ⟨x54, h55, h56⟩ := K60 hlt58
     refine C_skip_to (fun _ _ => rfl) ?_
     refine C_seq ?_
     refine C_block ?_
     refine C_seq ?_
     refine C_region ?_
     refine V_mv rfl rfl ?_
     refine V_as rfl rfl ?_
     refine V_to (fun _ _ => rfl) ?_
     refine C_seq ?_
     refine C_region_q (Dw := Dw) Tryz_mixed (by kernel_rfl) ?_
     refine VQ_y (fun w' hw' => Y_move rfl) rfl rfl rfl ?_
     refine VQ_y (fun w' hw' => Y_move rfl) rfl rfl rfl ?_
     refine VQ_y (fun w' hw' => Y_move rfl) rfl rfl rfl ?_
     obtain ⟨x63, hx63, h55⟩ := Option.bind_eq_some_iff.1 h55
     refine VQ_indexAddr h_a_ hx63 Tryz.underlying39 Tryz.sizeOf86 rfl rfl rfl ?_
     intro b64 o65 h66
     refine VQ_y (fun w' hw' => Y_load (El.u32 (El.kp (Dw := Dw) h66 hw')) Tryz.isAgg86 rfl) rfl rfl rfl ?_
     refine VQ_y (fun w' hw' => Y_convI Tryz.underlying86 Tryz.underlying85 rfl) rfl rfl rfl ?_
     refine VQ_y (fun w' hw' => Y_move rfl) rfl rfl rfl ?_
     refine VQ_y (fun w' hw' => Y_move rfl) rfl rfl rfl ?_
     obtain ⟨x67, hx67, h55⟩ := Option.bind_eq_some_iff.1 h55
     refine VQ_indexAddr h_b hx67 Tryz.underlying39 Tryz.sizeOf86 rfl rfl rfl ?_
     intro b68 o69 h70
     refine VQ_y (fun w' hw' => Y_load (El.u32 (El.kp (Dw := Dw) h70 hw')) Tryz.isAgg86 rfl) rfl rfl rfl ?_
     refine VQ_y (fun w' hw' => Y_convI Tryz.underlying86 Tryz.underlying85 rfl) rfl rfl rfl ?_
     refine VQ_y (fun w' hw' => Y_mul rfl rfl) rfl rfl rfl ?_
     refine VQ_y (fun w' hw' => Y_move rfl) rfl rfl rfl ?_
     refine VQ_y (fun w' hw' => Y_move rfl) rfl rfl rfl ?_
     refine VQ_y (fun w' hw' => Y_move rfl) rfl rfl rfl ?_
     refine VQ_y (fun w' hw' => Y_addI rfl rfl) rfl rfl rfl ?_
     obtain ⟨x71, hx71, h55⟩ := Option.bind_eq_some_iff.1 h55
     refine VQ_indexAddrH (α := UInt32) (e := 86) (v := v50) (l := s48.1) hH (i := 0) rfl hx71 Tryz.underlying39 Tryz.sizeOf86 rfl rfl rfl ?_
     intro b72 o73 h74 hl75
     refine VQ_y (fun w' hw' => Y_load (El.u32 (El.kp (Dw := Dw) h74 hw')) Tryz.isAgg86 rfl) rfl rfl rfl ?_
     refine VQ_y (fun w' hw' => Y_convI Tryz.underlying86 Tryz.underlying85 rfl) rfl rfl rfl ?_
     refine VQ_y (fun w' hw' => Y_add rfl rfl) rfl rfl rfl ?_
     refine VQ_y (fun w' hw' => Y_add rfl rfl) rfl rfl rfl ?_
     refine VQ_y (fun w' hw' => Y_assign rfl) rfl rfl rfl ?_
     refine VQ_to (fun _ _ => rfl) (fun w76 hk77 => ?_)
     have ht78 := Kp.tr hk77 hA hB
     replace hH := Hp.kp hH hk77
     replace hr39 := Tr.trans hr39 ht78
     replace hB := Nat.le_trans hB ht78.ex.size
     replace hA := ht78.new
     refine C_seq ?_
     refine C_region ?_
     refine V_mv rfl rfl ?_
     refine V_mv rfl rfl ?_
     refine V_mv rfl rfl ?_
     refine V_y (Y_addI rfl rfl) rfl rfl rfl ?_
     refine V_mv rfl rfl ?_
     refine V_y (Y_convU32 Tryz.underlying85 Tryz.underlying86 rfl) rfl rfl rfl ?_
     refine V_indexAddrH (α := UInt32) (e := 86) (v := v50) (l := s48.1) hH (i := 0) rfl hx71 Tryz.underlying39 Tryz.sizeOf86 rfl rfl rfl ?_
     intro b79 o80 h81 hl82
     obtain ⟨x83, hx83, h55⟩ := Option.bind_eq_some_iff.1 h55
     refine V_storeH (Dw := Dw) (α := UInt32) (e := 86) (v := v50) (l := s48.1) hH (i := 0) rfl hl82 hx83 rfl Tryz.sizeOf86 rfl hB hA rfl rfl ?_
     intro w84 hH85 ht86
     replace hr39 := Tr.trans hr39 ht86
     replace hH : Hp w.heap.size A52 w84 (obS (α := UInt32) 86 v50 x83 :: []) := hH85
     refine V_to (fun _ _ => rfl) ?_
     refine C_region ?_
     refine V_mv rfl rfl ?_
     obtain ⟨x87, hx87, h55⟩ := Option.bind_eq_some_iff.1 h55
     refine V_y (Y_shr hx87 rfl rfl) rfl rfl rfl ?_
     refine V_as rfl rfl ?_
     refine V_to (fun _ _ => rfl) ?_
     refine C_region ?_
     refine V_y (Y_addI rfl rfl) rfl rfl rfl ?_
     refine V_mv rfl rfl ?_
     obtain rfl := Option.some.inj h55
     refine V_end (fun a ha88 => ?_)
     exact ⟨(x83, x87), hlt58, h56, ⟨(v50, A52), ha88.sub ⟨rfl, rfl, rfl, rfl, rfl, rfl, rfl, rfl, (congrArg (fun z => some (Value.int .i64 z)) (w64_succ hlt58 hn61)), trivial⟩, ⟨hH, hr39⟩⟩⟩
    ·refine C_exit (fun a ha89 => ?_)
     exact ⟨((s48.1, s48.2), v50, A52), ha89.sub ⟨rfl, rfl, rfl, rfl, rfl, rfl, rfl, trivial⟩, ⟨(h59 (eq_of_dec hle57 hc62)).symm, hH, hr39⟩⟩
   rintro ⟨s38, v44, A46⟩ w41 ⟨rfl, hH47, hk42⟩ a ha43
   rw [Lp.andThen_fin] at h29
   replace h_b := Sl.tr h_b hk42
   replace hr13 := Tr.trans hr13 hk42
   replace hB := Nat.le_trans hB hk42.ex.size
   replace hA := hk42.new
   replace hH : Hp w.heap.size A46 w41 (obS (α := UInt32) 86 v44 s38.1 :: []) := hH47
   refine C_at (n := ⟨67, [], none⟩) (fun _ _ => rfl) ?_ ha43
   refine C_region ?_
   refine V_mv rfl rfl ?_
   refine V_mv rfl rfl ?_
   refine V_mv rfl rfl ?_
   refine V_y (Y_lenSl h_b rfl Tryz.underlying39 rfl) rfl rfl rfl ?_
   refine V_y (Y_addI rfl rfl) rfl rfl rfl ?_
   refine V_mv rfl rfl ?_
   refine V_y (Y_convU32 Tryz.underlying85 Tryz.underlying86 rfl) rfl rfl rfl ?_
   obtain ⟨x91, hx91, h29⟩ := Option.bind_eq_some_iff.1 h29
   refine V_indexAddrH (α := UInt32) (e := 86) (v := v44) (l := s38.1) hH (i := 0) rfl hx91 Tryz.underlying39 Tryz.sizeOf86 rfl rfl rfl ?_
   intro b92 o93 h94 hl95
   obtain ⟨x96, hx96, h29⟩ := Option.bind_eq_some_iff.1 h29
   refine V_storeH (Dw := Dw) (α := UInt32) (e := 86) (v := v44) (l := s38.1) hH (i := 0) rfl hl95 hx96 rfl Tryz.sizeOf86 rfl hB hA rfl rfl ?_
   intro w97 hH98 ht99
   replace hr13 := Tr.trans hr13 ht99
   replace hH : Hp w.heap.size A46 w97 (obS (α := UInt32) 86 v44 x96 :: []) := hH98
   refine V_to (fun _ _ => rfl) ?_
   refine C_region ?_
   refine V_y (Y_addI rfl rfl) rfl rfl rfl ?_
   refine V_mv rfl rfl ?_
   obtain rfl := Option.some.inj h29
   refine V_end (fun a ha100 => ?_)
   exact ⟨x96, hlt32, h30, ⟨(v44, A46), ha100.sub ⟨rfl, rfl, rfl, rfl, (congrArg (fun z => some (Value.int .i64 z)) (w64_succ hlt32 hn35)), trivial⟩, ⟨hH, hr13⟩⟩⟩
  ·refine C_exit (fun a ha101 => ?_)
   exact ⟨(s22, v24, A26), ha101.sub ⟨rfl, trivial⟩, ⟨(h33 (eq_of_dec hle31 hc36)).symm, hH, hr13⟩⟩
 rintro ⟨s12, v18, A20⟩ w15 ⟨rfl, hH21, hk16⟩ a ha17
 rw [Lp.andThen_fin] at hm
 replace hK := Tr.trans hK hk16
 replace hB := Nat.le_trans hB hk16.ex.size
 replace hA := hk16.new
 replace hH : Hp w.heap.size A20 w15 (obS (α := UInt32) 86 v18 s12 :: []) := hH21
 refine C_at (n := ⟨67, [], none⟩) (fun _ _ => rfl) ?_ ha17
 refine C_seq ?_
 refine C_region ?_
 refine V_mv rfl rfl ?_
 obtain ⟨x103, hx103, hm⟩ := Option.bind_eq_some_iff.1 hm
 refine V_call Tryz.call48 rfl rfl rfl rfl (portref2_whole_trim_c (Dw := Dw) w15 hB hA s12 v18 hH hx103) ?_
 rintro v104 w106 ⟨_, A107, rfl, hH108, ht109⟩
 replace hK := Tr.trans hK ht109
 replace hH : Hp w.heap.size A107 w106 (obS (α := UInt32) 86 v104 x103 :: []) := hH108
 refine V_as rfl rfl ?_
 refine V_to (fun _ _ => rfl) ?_
 obtain rfl := Option.some.inj hm
 refine C_ret ?_
 try simp only [↓inBlock_ret, ↓then_ret]
 exact retQ rfl (Res.one Tryz.results26 rfl) ⟨v104, rfl, (Hp.ownd hH (i := 0) rfl), hK.kp⟩

set_option maxRecDepth 4000 in
set_option maxHeartbeats 4000000 in
theorem portref2_DecimalOf_c (w : World) {A : Nat → Prop} (hA : ∀ b, w.heap.size ≤ b → A b) (r_ : staff_Ratio) (n : Int) {r : (ByteArray × Int)} (hm : portref2_DecimalOf r_ n = some r) : Ret Tryz.prog 7 #[.agg #[.string r_.num, .string r_.den], .int .i64 n] w fun v w' => v = .tuple #[.string r.1, .int .i64 r.2] ∧ Kp False w w' := by
 unfold portref2_DecimalOf at hm
 refine enter Tryz.func7 rfl Tryz.ntmps7 rfl ?_
 have hA0 := hA
 have hB := Nat.le_refl w.heap.size
 have hK : Tr False w.heap.size A w A w := Tr.refl (Dw := False) hA
 have hH : Hp w.heap.size A w [] := Hp.nil
 refine C_seq ?_
 refine C_region ?_
 refine V_box rfl rfl ?_
 intro b1 w2 h3
 have hk5 := h3.kp (Dw := False)
 have h4 : El (α := staff_Ratio) A w2 b1 0 r_ := h3.el hA ⟨[.string r_.num], _, rfl, rfl, rfl⟩
 have ht6 := Kp.tr (Dw := False) hk5 hA hB
 replace hH := Hp.kp (Dw := False) hH hk5
 replace hK := Tr.trans (Dw := False) hK ht6
 replace hB := Nat.le_trans hB ht6.ex.size
 replace hA := ht6.new
 refine V_as rfl rfl ?_
 refine V_as rfl rfl ?_
 refine V_to (fun _ _ => rfl) ?_
 refine C_seq ?_
 refine C_seq ?_
 refine C_region ?_
 obtain ⟨h7, _⟩ := El_staff_Ratio h4
 refine V_y (Y_loadA h7 Tryz.isAgg23 Tryz.sizeOf23 rfl) rfl rfl rfl ?_
 obtain ⟨x8, hx8, hm⟩ := Option.bind_eq_some_iff.1 hm
 refine V_call Tryz.call22 rfl rfl rfl rfl (portref2_RatioFault_c w2 hA r_ hx8) ?_
 rintro _ w9 ⟨rfl, hk10⟩
 have ht11 := Kp.tr (Dw := False) hk10 hA hB
 replace hH := Hp.kp (Dw := False) hH hk10
 replace h4 := El.tr (Dw := False) h4 ht11
 replace hK := Tr.trans (Dw := False) hK ht11
 replace hB := Nat.le_trans hB ht11.ex.size
 replace hA := ht11.new
 refine V_as rfl rfl ?_
 refine V_to (fun _ _ => rfl) ?_
 refine C_seq ?_
 refine C_region ?_
 refine V_mv rfl rfl ?_
 refine V_y (Y_neq rfl rfl) rfl rfl rfl ?_
 refine V_to (fun _ _ => rfl) ?_
 refine C_cond rfl (fun hc12 => ?_) (fun hc12 => ?_)
 ·rw [if_pos hc12] at hm
  refine C_seq ?_
  refine C_region ?_
  refine V_mv rfl rfl ?_
  refine V_as rfl rfl ?_
  refine V_as rfl rfl ?_
  refine V_to (fun _ _ => rfl) ?_
  obtain rfl := Option.some.inj hm
  refine C_ret ?_
  try simp only [↓inBlock_ret, ↓then_ret]
  exact retQ rfl (Res.two Tryz.results7 rfl rfl) ⟨rfl, hK.kp⟩
 ·rw [if_neg (nt hc12)] at hm
  refine C_skip_to (fun _ _ => rfl) ?_
  refine C_seq ?_
  refine C_seq ?_
  refine C_region ?_
  refine V_mv rfl rfl ?_
  refine V_y (Y_lss rfl rfl) rfl rfl rfl ?_
  refine V_mv rfl rfl ?_
  refine V_cut 3 (fun _ : Unit => [(1, .int .i64 n), (2, .pointer (some ⟨b1, 0, none⟩)), (23, .bool ((decide (n < 0)) || (decide ((1000 : Int) < n))))]) (fun _ w' => w9 = w') ?_ ?_
  ·simp only [List.take, List.drop]
   rcases Bool.eq_false_or_eq_true (decide (n < 0)) with hc13 | hc13
   ·refine V_gn rfl rfl rfl hc13 rfl rfl rfl ?_
    refine V_gn rfl rfl rfl hc13 rfl rfl rfl ?_
    refine V_y (Y_pick_te rfl hc13 rfl) rfl rfl rfl ?_
    exact V_end fun a ha => ⟨(), ha.sub ⟨rfl, rfl, (by rw [hc13]; rfl), trivial⟩, rfl⟩
   ·refine V_ge rfl rfl rfl hc13 ?_
    refine V_mv rfl rfl ?_
    refine V_ge rfl rfl rfl hc13 ?_
    refine V_y (Y_gtr rfl rfl) rfl rfl rfl ?_
    refine V_y (Y_pick_fe rfl hc13 rfl) rfl rfl rfl ?_
    exact V_end fun a ha => ⟨(), ha.sub ⟨rfl, rfl, (by rw [hc13]; rfl), trivial⟩, rfl⟩
  simp only [List.take, List.drop]
  rintro _ _ rfl
  refine V_to (fun _ _ => rfl) ?_
  refine C_cond rfl (fun hc15 => ?_) (fun hc15 => ?_)
  ·rw [if_pos hc15] at hm
   refine C_seq ?_
   refine C_region ?_
   refine V_as rfl rfl ?_
   refine V_as rfl rfl ?_
   refine V_to (fun _ _ => rfl) ?_
   obtain rfl := Option.some.inj hm
   refine C_ret ?_
   try simp only [↓inBlock_ret, ↓then_ret]
   exact retQ rfl (Res.two Tryz.results7 rfl rfl) ⟨rfl, hK.kp⟩
  ·rw [if_neg (nt hc15)] at hm
   refine C_skip_to (fun _ _ => rfl) ?_
   refine C_seq ?_
   refine C_region ?_
   obtain ⟨h16, _⟩ := El_staff_Ratio h4
   refine V_y (Y_loadA h16 Tryz.isAgg23 Tryz.sizeOf23 rfl) rfl rfl rfl ?_
   obtain ⟨x17, hx17, hm⟩ := Option.bind_eq_some_iff.1 hm
   refine V_call Tryz.call23 rfl rfl rfl rfl (portref2_ratOf_c (Dw := False) w9 hA r_ hx17) ?_
   rintro _ w22 ⟨v18, v20, rfl, h19, h21, hk23⟩
   have ht24 := Kp.tr (Dw := False) hk23 hA hB
   replace hH := Hp.kp (Dw := False) hH hk23
   replace hK := Tr.trans (Dw := False) hK ht24
   replace hB := Nat.le_trans hB ht24.ex.size
   replace hA := ht24.new
   refine V_alloc Tryz.zeroValue41 rfl ?_
   intro b25 w26 h27
   have h32 : (v18).oneCell' = true := by obtain ⟨_, _, e, _⟩ := Sl.form h19; rw [e]; rfl
   have h35 : (v20).oneCell' = true := by obtain ⟨_, _, e, _⟩ := Sl.form h21; rw [e]; rfl
   refine V_storeNew h27 Tryz.sizeOf41 rfl rfl rfl rfl (by exact (List.forall_mem_cons.2 ⟨h32, (List.forall_mem_cons.2 ⟨h35, (fun _ h => nomatch h)⟩)⟩)) ?_
   intro w28 h29
   have hk37 := h29.kp (Dw := False)
   have h36 : El (α := portref2_ratio) A w28 b25 0 x17 := h29.el hA ⟨[v18], _, rfl, ⟨_, rfl, h19⟩, ⟨_, rfl, h21⟩⟩
   have ht38 := Kp.tr (Dw := False) hk37 hA hB
   replace hH := Hp.kp (Dw := False) hH hk37
   replace hK := Tr.trans (Dw := False) hK ht38
   replace hB := Nat.le_trans hB ht38.ex.size
   replace hA := ht38.new
   refine V_to (fun _ _ => rfl) ?_
   refine C_seq ?_
   refine C_region ?_
   refine V_mv rfl rfl ?_
   obtain ⟨x39, hx39, hm⟩ := Option.bind_eq_some_iff.1 hm
   refine V_call Tryz.call17 rfl rfl rfl rfl (strings_Repeat_c w28 hA (⟨#[48]⟩ : ByteArray) n hx39) ?_
   rintro _ w40 ⟨rfl, hk41⟩
   have ht42 := Kp.tr (Dw := False) hk41 hA hB
   replace hH := Hp.kp (Dw := False) hH hk41
   replace h36 := El.tr (Dw := False) h36 ht42
   replace hK := Tr.trans (Dw := False) hK ht42
   replace hB := Nat.le_trans hB ht42.ex.size
   replace hA := ht42.new
   obtain ⟨x43, hx43, hm⟩ := Option.bind_eq_some_iff.1 hm
   refine V_y (Y_sadd hx43 rfl rfl) rfl rfl rfl ?_
   obtain ⟨x44, hx44, hm⟩ := Option.bind_eq_some_iff.1 hm
   refine V_call Tryz.call24 rfl rfl rfl rfl (portref2_wholeText_c (Dw := False) w40 hA x43 hx44) ?_
   rintro v45 w47 ⟨_, rfl, h46, hk48⟩
   obtain ⟨A49, ht50, hH51⟩ := Hp.addOwnd (Dw := False) hH hB hA hk48 h46
   replace h36 := El.tr (Dw := False) h36 ht50
   replace hK := Tr.trans (Dw := False) hK ht50
   replace hB := Nat.le_trans hB ht50.ex.size
   replace hA := ht50.new
   replace hH : Hp w.heap.size A49 w47 (obS (α := UInt32) 86 v45 x44 :: []) := hH51
   refine V_as rfl rfl ?_
   refine V_to (fun _ _ => rfl) ?_
   refine C_seq ?_
   refine C_region ?_
   have h52 := El_portref2_ratio_1 h36
   refine V_y (Y_fieldAddr Tryz.underlying41 rfl Tryz.sizeOf39 (by decide) rfl) rfl rfl rfl ?_
   obtain ⟨v53, h54, h55⟩ := El.list h52
   refine V_y (Y_load h54 Tryz.isAgg39 rfl) rfl rfl rfl ?_
   have h56 := El_portref2_ratio_1 h36
   refine V_y (Y_fieldAddr Tryz.underlying41 rfl Tryz.sizeOf39 (by decide) rfl) rfl rfl rfl ?_
   obtain ⟨v57, h58, h59⟩ := El.list h56
   refine V_y (Y_load h58 Tryz.isAgg39 rfl) rfl rfl rfl ?_
   obtain ⟨x60, hx60, hm⟩ := Option.bind_eq_some_iff.1 hm
   refine V_call Tryz.call25 rfl rfl rfl rfl (portref2_whole_plus_c (Dw := False) w47 hA x17.den v53 h55 x17.den v57 h59 hx60) ?_
   rintro v61 w63 ⟨_, rfl, h62, hk64⟩
   obtain ⟨A65, ht66, hH67⟩ := Hp.addOwnd (Dw := False) hH hB hA hk64 h62
   replace h36 := El.tr (Dw := False) h36 ht66
   replace hK := Tr.trans (Dw := False) hK ht66
   replace hB := Nat.le_trans hB ht66.ex.size
   replace hA := ht66.new
   replace hH : Hp w.heap.size A65 w63 (obS (α := UInt32) 86 v61 x60 :: obS (α := UInt32) 86 v45 x44 :: []) := hH67
   refine V_as rfl rfl ?_
   refine V_to (fun _ _ => rfl) ?_
   refine C_seq ?_
   refine C_region_ch (Dw := False) A65 16 [(1, 0), (1, 1), (1, 2), (1, 6), (1, 7), (1, 9), (2, 3), (2, 4), (2, 5), (2, 8), (2, 10), (1, 11), (1, 12), (1, 13), (1, 14), (1, 15)] Tryz_mixed (by kernel_rfl) (fun w68 hk69 => ?_)
   have ht70 := Kp.tr (Dw := False) hk69 hA hB
   replace hH := Hp.kp (Dw := False) hH hk69
   replace h36 := El.tr (Dw := False) h36 ht70
   replace hK := Tr.trans (Dw := False) hK ht70
   replace hB := Nat.le_trans hB ht70.ex.size
   replace hA := ht70.new
   refine CH_q2 (Dw := False) rfl ?_
   have h71 := El_portref2_ratio_0 h36
   refine VQ_y (fun w' hw' => Y_fieldAddr Tryz.underlying41 rfl Tryz.sizeOf39 (by decide) rfl) rfl rfl rfl ?_
   refine VQ_CH (Dw := False) ?_
   refine CH_q2 (Dw := False) rfl ?_
   obtain ⟨v72, h73, h74⟩ := El.list h71
   refine VQ_y (fun w' hw' => Y_load ((World.cell?_of_block (hw'.2 _ h71.2.1 h71.1)).trans h73) Tryz.isAgg39 rfl) rfl rfl rfl ?_
   refine VQ_CH (Dw := False) ?_
   refine CH_q2 (Dw := False) rfl ?_
   refine VQ_y (fun w' hw' => Y_move rfl) rfl rfl rfl ?_
   refine VQ_CH (Dw := False) ?_
   refine CH_q2 (Dw := False) rfl ?_
   have h75 := El_portref2_ratio_1 h36
   refine VQ_y (fun w' hw' => Y_fieldAddr Tryz.underlying41 rfl Tryz.sizeOf39 (by decide) rfl) rfl rfl rfl ?_
   refine VQ_CH (Dw := False) ?_
   refine CH_q2 (Dw := False) rfl ?_
   obtain ⟨v76, h77, h78⟩ := El.list h75
   refine VQ_y (fun w' hw' => Y_load ((World.cell?_of_block (hw'.2 _ h75.2.1 h75.1)).trans h77) Tryz.isAgg39 rfl) rfl rfl rfl ?_
   refine VQ_CH (Dw := False) ?_
   refine CH_q2 (Dw := False) rfl ?_
   refine VQ_y (fun w' hw' => Y_move rfl) rfl rfl rfl ?_
   refine VQ_CH (Dw := False) ?_
   refine CH_l1 (Dw := False) (k := 0) rfl ?_
   obtain ⟨x79, hx79, hm⟩ := Option.bind_eq_some_iff.1 hm
   refine V_call Tryz.call26 rfl rfl rfl rfl (portref2_whole_times_c (Dw := False) w68 (A := fun _ => True) (fun _ _ => trivial) x17.num v72 (Sl.any h74) x44 v45 (Hp.any (α := UInt32) (e := 86) (v := v45) (l := x44) hH (i := 1) rfl) hx79) ?_
   rintro v80 w82 ⟨_, rfl, h81, hk83⟩
   obtain ⟨A84, ht85, hH86⟩ := Hp.addOwnd (Dw := False) hH hB hA hk83 h81
   replace h78 := Sl.tr (Dw := False) h78 ht85
   replace hK := Tr.trans (Dw := False) hK ht85
   replace hB := Nat.le_trans hB ht85.ex.size
   replace hA := ht85.new
   replace hH : Hp w.heap.size A84 w82 (obS (α := UInt32) 86 v80 x79 :: obS (α := UInt32) 86 v61 x60 :: obS (α := UInt32) 86 v45 x44 :: []) := hH86
   refine V_CH (Dw := False) (hk83) ?_
   refine CH_l1 (Dw := False) (k := 0) rfl ?_
   obtain ⟨x87, hx87, hm⟩ := Option.bind_eq_some_iff.1 hm
   refine V_call Tryz.call27 rfl rfl rfl rfl (portref2_wholeOf_c (Dw := False) w82 hA 2 hx87) ?_
   rintro v88 w90 ⟨_, rfl, h89, hk91⟩
   obtain ⟨A92, ht93, hH94⟩ := Hp.addOwnd (Dw := False) hH hB hA hk91 h89
   replace h78 := Sl.tr (Dw := False) h78 ht93
   replace hK := Tr.trans (Dw := False) hK ht93
   replace hB := Nat.le_trans hB ht93.ex.size
   replace hA := ht93.new
   replace hH : Hp w.heap.size A92 w90 (obS (α := UInt32) 86 v88 x87 :: obS (α := UInt32) 86 v80 x79 :: obS (α := UInt32) 86 v61 x60 :: obS (α := UInt32) 86 v45 x44 :: []) := hH94
   refine V_CH (Dw := False) (hk91) ?_
   refine CH_l1 (Dw := False) (k := 0) rfl ?_
   obtain ⟨x95, hx95, hm⟩ := Option.bind_eq_some_iff.1 hm
   refine V_call Tryz.call26 rfl rfl rfl rfl (portref2_whole_times_c (Dw := False) w90 (A := fun _ => True) (fun _ _ => trivial) x79 v80 (Hp.any (α := UInt32) (e := 86) (v := v80) (l := x79) hH (i := 1) rfl) x87 v88 (Hp.any (α := UInt32) (e := 86) (v := v88) (l := x87) hH (i := 0) rfl) hx95) ?_
   rintro v96 w98 ⟨_, rfl, h97, hk99⟩
   obtain ⟨A100, ht101, hH102⟩ := Hp.addOwnd (Dw := False) hH hB hA hk99 h97
   replace h78 := Sl.tr (Dw := False) h78 ht101
   replace hK := Tr.trans (Dw := False) hK ht101
   replace hB := Nat.le_trans hB ht101.ex.size
   replace hA := ht101.new
   replace hH : Hp w.heap.size A100 w98 (obS (α := UInt32) 86 v96 x95 :: obS (α := UInt32) 86 v88 x87 :: obS (α := UInt32) 86 v80 x79 :: obS (α := UInt32) 86 v61 x60 :: obS (α := UInt32) 86 v45 x44 :: []) := hH102
   refine V_CH (Dw := False) (hk99) ?_
   refine CH_l1 (Dw := False) (k := 0) rfl ?_
   obtain ⟨x103, hx103, hm⟩ := Option.bind_eq_some_iff.1 hm
   refine V_call Tryz.call25 rfl rfl rfl rfl (portref2_whole_plus_c (Dw := False) w98 (A := fun _ => True) (fun _ _ => trivial) x95 v96 (Hp.any (α := UInt32) (e := 86) (v := v96) (l := x95) hH (i := 0) rfl) x17.den v76 (Sl.any h78) hx103) ?_
   rintro v104 w106 ⟨_, rfl, h105, hk107⟩
   obtain ⟨A108, ht109, hH110⟩ := Hp.addOwnd (Dw := False) hH hB hA hk107 h105
   replace hK := Tr.trans (Dw := False) hK ht109
   replace hB := Nat.le_trans hB ht109.ex.size
   replace hA := ht109.new
   replace hH : Hp w.heap.size A108 w106 (obS (α := UInt32) 86 v104 x103 :: obS (α := UInt32) 86 v96 x95 :: obS (α := UInt32) 86 v88 x87 :: obS (α := UInt32) 86 v80 x79 :: obS (α := UInt32) 86 v61 x60 :: obS (α := UInt32) 86 v45 x44 :: []) := hH110
   refine V_CH (Dw := False) (hk107) ?_
   refine CH_l1 (Dw := False) (k := 0) rfl ?_
   obtain ⟨A111, ht112, h113, hH114⟩ := Hp.freeze (Dw := False) (α := UInt32) (v := v104) (l := x103) hH (i := 0) rfl hA
   replace hK := Tr.trans (Dw := False) hK ht112
   replace hB := Nat.le_trans hB ht112.ex.size
   replace hA := ht112.new
   replace hH : Hp w.heap.size A111 w106 (obS (α := UInt32) 86 v96 x95 :: obS (α := UInt32) 86 v88 x87 :: obS (α := UInt32) 86 v80 x79 :: obS (α := UInt32) 86 v61 x60 :: obS (α := UInt32) 86 v45 x44 :: []) := hH114
   obtain ⟨A116, ht117, h118, hH119⟩ := Hp.freeze (Dw := False) (α := UInt32) (v := v61) (l := x60) hH (i := 3) rfl hA
   replace h113 := Sl.tr (Dw := False) h113 ht117
   replace hK := Tr.trans (Dw := False) hK ht117
   replace hB := Nat.le_trans hB ht117.ex.size
   replace hA := ht117.new
   replace hH : Hp w.heap.size A116 w106 (obS (α := UInt32) 86 v96 x95 :: obS (α := UInt32) 86 v88 x87 :: obS (α := UInt32) 86 v80 x79 :: obS (α := UInt32) 86 v45 x44 :: []) := hH119
   obtain ⟨x121, hx121, hm⟩ := Option.bind_eq_some_iff.1 hm
   refine V_call Tryz.call28 rfl rfl rfl rfl (portref2_whole_by_c (Dw := False) w106 (B := w106.heap.size) (Nat.le_refl _) hA x103 v104 h113 x60 v61 h118 Hp.nil hx121) ?_
   rintro _ w126 ⟨v122, v124, A127, rfl, hH128, ht129⟩
   have hk130 : Kp False w106 w126 := ht129.below
   have hH131 := Hp.join (Dw := False) hH hB ht129 hH128
   have ht132 := Tr.lower (Dw := False) ht129 hB
   replace hK := Tr.trans (Dw := False) hK ht132
   replace hB := Nat.le_trans hB ht132.ex.size
   replace hA := ht132.new
   replace hH : Hp w.heap.size A127 w126 (obS (α := UInt32) 86 v122 x121.1 :: obS (α := UInt32) 86 v124 x121.2 :: obS (α := UInt32) 86 v96 x95 :: obS (α := UInt32) 86 v88 x87 :: obS (α := UInt32) 86 v80 x79 :: obS (α := UInt32) 86 v45 x44 :: []) := hH131
   refine V_CH (Dw := False) (hk130) ?_
   refine CH_q2 (Dw := False) rfl ?_
   refine VQ_y (fun w' hw' => Y_move rfl) rfl rfl rfl ?_
   refine VQ_CH (Dw := False) ?_
   refine CH_q2 (Dw := False) rfl ?_
   refine VQ_y (fun w' hw' => Y_extract rfl rfl) rfl rfl rfl ?_
   refine VQ_CH (Dw := False) ?_
   refine CH_q2 (Dw := False) rfl ?_
   refine VQ_y (fun w' hw' => Y_extract rfl rfl) rfl rfl rfl ?_
   refine VQ_CH (Dw := False) ?_
   refine CH_q2 (Dw := False) rfl ?_
   refine VQ_y (fun w' hw' => Y_assign rfl) rfl rfl rfl ?_
   refine VQ_CH (Dw := False) ?_
   refine CH_q2 (Dw := False) rfl ?_
   refine VQ_y (fun w' hw' => Y_assign rfl) rfl rfl rfl ?_
   refine VQ_CH (Dw := False) ?_
   refine CH_tail (Dw := False) ?_
   show V _ _ _ _ [] _ _
   refine V_to (fun _ _ => rfl) ?_
   refine C_seq ?_
   refine C_region ?_
   refine V_mv rfl rfl ?_
   obtain ⟨x133, hx133, hm⟩ := Option.bind_eq_some_iff.1 hm
   refine V_call Tryz.call29 rfl rfl rfl rfl (portref2_whole_text_c (Dw := False) w126 (A := fun _ => True) (fun _ _ => trivial) x121.1 v122 (Hp.any (α := UInt32) (e := 86) (v := v122) (l := x121.1) hH (i := 0) rfl) hx133) ?_
   rintro _ w134 ⟨rfl, hk135⟩
   have ht136 := Kp.tr (Dw := False) hk135 hA hB
   replace hH := Hp.kp (Dw := False) hH hk135
   replace hK := Tr.trans (Dw := False) hK ht136
   replace hB := Nat.le_trans hB ht136.ex.size
   replace hA := ht136.new
   refine V_as rfl rfl ?_
   refine V_to (fun _ _ => rfl) ?_
   refine C_seq ?_
   refine C_seq ?_
   refine C_region ?_
   refine V_mv rfl rfl ?_
   refine V_y (Y_eql rfl rfl) rfl rfl rfl ?_
   refine V_to (fun _ _ => rfl) ?_
   refine C_cond rfl (fun hc137 => ?_) (fun hc137 => ?_)
   ·rw [if_pos hc137] at hm
    refine C_seq ?_
    refine C_region ?_
    refine V_mv rfl rfl ?_
    refine V_as rfl rfl ?_
    refine V_as rfl rfl ?_
    refine V_to (fun _ _ => rfl) ?_
    obtain rfl := Option.some.inj hm
    refine C_ret ?_
    try simp only [↓inBlock_ret, ↓then_ret]
    exact retQ rfl (Res.two Tryz.results7 rfl rfl) ⟨rfl, hK.kp⟩
   ·rw [if_neg (nt hc137)] at hm
    refine C_skip_to (fun _ _ => rfl) ?_
    refine C_seq ?_
    refine C_seq ?_
    refine C_region ?_
    refine V_mv rfl rfl ?_
    refine V_y (Y_lenStr rfl Tryz.underlying9 rfl) rfl rfl rfl ?_
    refine V_mv rfl rfl ?_
    refine V_y (Y_leq rfl rfl) rfl rfl rfl ?_
    refine V_to (fun _ _ => rfl) ?_
    obtain ⟨s139, ho138, hm⟩ := Option.bind_eq_some_iff.1 hm
    refine C_cutG (ι := (Nat → Prop)) (fun (A144 : (Nat → Prop)) => [(1, .int .i64 n), (12, .string s139)]) (fun (A144 : (Nat → Prop)) => fun w' => Hp w.heap.size A144 w' (obS (α := UInt32) 86 v122 x121.1 :: obS (α := UInt32) 86 v124 x121.2 :: obS (α := UInt32) 86 v96 x95 :: obS (α := UInt32) 86 v88 x87 :: obS (α := UInt32) 86 v80 x79 :: obS (α := UInt32) 86 v45 x44 :: []) ∧ Tr False w.heap.size A127 w134 A144 w') ?_ ?_
    ·have hr140 : Tr False w.heap.size A127 w134 A127 w134 := Tr.refl (Dw := False) hA
     refine C_cond rfl (fun hc146 => ?_) (fun hc146 => ?_)
     ·rw [if_pos hc146] at ho138
      refine C_region ?_
      refine V_mv rfl rfl ?_
      refine V_y (Y_addI rfl rfl) rfl rfl rfl ?_
      refine V_mv rfl rfl ?_
      refine V_y (Y_lenStr rfl Tryz.underlying9 rfl) rfl rfl rfl ?_
      refine V_y (Y_subI rfl rfl) rfl rfl rfl ?_
      obtain ⟨x147, hx147, ho138⟩ := Option.bind_eq_some_iff.1 ho138
      refine V_call Tryz.call17 rfl rfl rfl rfl (strings_Repeat_c w134 hA (⟨#[48]⟩ : ByteArray) (w64 ((w64 (n + 1)) - (x133.size : Int))) hx147) ?_
      rintro _ w148 ⟨rfl, hk149⟩
      have ht150 := Kp.tr (Dw := False) hk149 hA hB
      replace hH := Hp.kp (Dw := False) hH hk149
      replace hr140 := Tr.trans (Dw := False) hr140 ht150
      refine V_mv rfl rfl ?_
      obtain ⟨x151, hx151, ho138⟩ := Option.bind_eq_some_iff.1 ho138
      refine V_y (Y_sadd hx151 rfl rfl) rfl rfl rfl ?_
      refine V_as rfl rfl ?_
      obtain rfl := Option.some.inj ho138
      refine V_end (fun a ha152 => ?_)
      exact ⟨A127, ha152.sub ⟨rfl, rfl, trivial⟩, ⟨hH, hr140⟩⟩
     ·rw [if_neg (nt hc146)] at ho138
      obtain rfl := Option.some.inj ho138
      refine C_skip (fun a ha153 => ?_)
      exact ⟨A127, ha153.sub ⟨rfl, rfl, trivial⟩, ⟨hH, hr140⟩⟩
    rintro A144 w141 ⟨hH145, hk142⟩ a ha143
    replace hK := Tr.trans (Dw := False) hK hk142
    replace hB := Nat.le_trans hB hk142.ex.size
    replace hA := hk142.new
    replace hH : Hp w.heap.size A144 w141 (obS (α := UInt32) 86 v122 x121.1 :: obS (α := UInt32) 86 v124 x121.2 :: obS (α := UInt32) 86 v96 x95 :: obS (α := UInt32) 86 v88 x87 :: obS (α := UInt32) 86 v80 x79 :: obS (α := UInt32) 86 v45 x44 :: []) := hH145
    refine C_at (n := ⟨80, [], none⟩) (fun _ _ => rfl) ?_ ha143
    refine C_seq ?_
    refine C_region_q (Dw := False) Tryz_mixed (by kernel_rfl) ?_
    refine VQ_y (fun w' hw' => Y_move rfl) rfl rfl rfl ?_
    refine VQ_y (fun w' hw' => Y_move rfl) rfl rfl rfl ?_
    refine VQ_y (fun w' hw' => Y_lenStr rfl Tryz.underlying9 rfl) rfl rfl rfl ?_
    refine VQ_y (fun w' hw' => Y_move rfl) rfl rfl rfl ?_
    refine VQ_y (fun w' hw' => Y_subI rfl rfl) rfl rfl rfl ?_
    obtain ⟨x154, hx154, hm⟩ := Option.bind_eq_some_iff.1 hm
    refine VQ_y (fun w' hw' => Y_sliceSH hx154 Tryz.underlying9 rfl rfl) rfl rfl rfl ?_
    obtain ⟨x155, hx155, hm⟩ := Option.bind_eq_some_iff.1 hm
    refine VQ_y (fun w' hw' => Y_sadd hx155 rfl rfl) rfl rfl rfl ?_
    refine VQ_y (fun w' hw' => Y_move rfl) rfl rfl rfl ?_
    refine VQ_y (fun w' hw' => Y_move rfl) rfl rfl rfl ?_
    refine VQ_y (fun w' hw' => Y_lenStr rfl Tryz.underlying9 rfl) rfl rfl rfl ?_
    refine VQ_y (fun w' hw' => Y_move rfl) rfl rfl rfl ?_
    refine VQ_y (fun w' hw' => Y_subI rfl rfl) rfl rfl rfl ?_
    obtain ⟨x156, hx156, hm⟩ := Option.bind_eq_some_iff.1 hm
    refine VQ_y (fun w' hw' => Y_sliceSL hx156 Tryz.underlying9 rfl rfl) rfl rfl rfl ?_
    obtain ⟨x157, hx157, hm⟩ := Option.bind_eq_some_iff.1 hm
    refine VQ_y (fun w' hw' => Y_sadd hx157 rfl rfl) rfl rfl rfl ?_
    refine VQ_y (fun w' hw' => Y_assign rfl) rfl rfl rfl ?_
    refine VQ_y (fun w' hw' => Y_assign rfl) rfl rfl rfl ?_
    refine VQ_to (fun _ _ => rfl) (fun w158 hk159 => ?_)
    have ht160 := Kp.tr (Dw := False) hk159 hA hB
    replace hK := Tr.trans (Dw := False) hK ht160
    obtain rfl := Option.some.inj hm
    refine C_ret ?_
    try simp only [↓inBlock_ret, ↓then_ret]
    exact retQ rfl (Res.two Tryz.results7 rfl rfl) ⟨rfl, hK.kp⟩

set_option maxRecDepth 4000 in
set_option maxHeartbeats 4000000 in
theorem portlaw2_RatioWrites_c (w : World) {A : Nat → Prop} (hA : ∀ b, w.heap.size ≤ b → A b) (hT : Fz Tryz_FR A w) (num : Int) (den : Int) (r_ : staff_Ratio) (digits : Int) {r : Bool} (hm : portlaw2_RatioWrites num den r_ digits = some r) : Ret Tryz.prog 3 #[.int .i64 num, .int .i64 den, .agg #[.string r_.num, .string r_.den], .int .i64 digits] w fun v w' => v = .bool r ∧ Kp False w w' := by
 unfold portlaw2_RatioWrites at hm
 refine enter Tryz.func3 rfl Tryz.ntmps3 rfl ?_
 have hA0 := hA
 have hB := Nat.le_refl w.heap.size
 have hK : Tr False w.heap.size A w A w := Tr.refl (Dw := False) hA
 have hH : Hp w.heap.size A w [] := Hp.nil
 refine C_seq ?_
 refine C_region ?_
 refine V_box rfl rfl ?_
 intro b1 w2 h3
 have hk5 := h3.kp (Dw := False)
 have h4 : El (α := staff_Ratio) A w2 b1 0 r_ := h3.el hA ⟨[.string r_.num], _, rfl, rfl, rfl⟩
 have ht6 := Kp.tr (Dw := False) hk5 hA hB
 replace hK := Tr.trans (Dw := False) hK ht6
 replace hB := Nat.le_trans hB ht6.ex.size
 replace hA := ht6.new
 refine V_as rfl rfl ?_
 refine V_to (fun _ _ => rfl) ?_
 refine C_seq ?_
 refine C_region ?_
 refine V_mv rfl rfl ?_
 refine V_mv rfl rfl ?_
 obtain ⟨x7, hx7, hm⟩ := Option.bind_eq_some_iff.1 hm
 refine V_call Tryz.call4 rfl rfl rfl rfl (staff_RatioOf_c w2 hA (Fz.tr (Dw := False) hT hK) num den hx7) ?_
 rintro _ w9 ⟨rfl, hk10⟩
 have ht11 := Kp.tr (Dw := False) hk10 hA hB
 replace h4 := El.tr (Dw := False) h4 ht11
 replace hK := Tr.trans (Dw := False) hK ht11
 replace hB := Nat.le_trans hB ht11.ex.size
 replace hA := ht11.new
 refine V_mv rfl rfl ?_
 refine V_y (Y_extract rfl rfl) rfl rfl rfl ?_
 refine V_y (Y_extract rfl rfl) rfl rfl rfl ?_
 refine V_alloc Tryz.zeroValue23 rfl ?_
 intro b12 w13 h14
 refine V_storeNew h14 Tryz.sizeOf23 rfl rfl rfl rfl (by exact (List.forall_mem_cons.2 ⟨rfl, (List.forall_mem_cons.2 ⟨rfl, (fun _ h => nomatch h)⟩)⟩)) ?_
 intro w15 h16
 have hk18 := h16.kp (Dw := False)
 have h17 : El (α := staff_Ratio) A w15 b12 0 x7.1 := h16.el hA ⟨[.string x7.1.num], _, rfl, rfl, rfl⟩
 have ht19 := Kp.tr (Dw := False) hk18 hA hB
 replace h4 := El.tr (Dw := False) h4 ht19
 replace hK := Tr.trans (Dw := False) hK ht19
 replace hB := Nat.le_trans hB ht19.ex.size
 replace hA := ht19.new
 refine V_as rfl rfl ?_
 refine V_to (fun _ _ => rfl) ?_
 refine C_seq ?_
 refine C_region ?_
 refine V_mv rfl rfl ?_
 refine V_mv rfl rfl ?_
 obtain ⟨x20, hx20, hm⟩ := Option.bind_eq_some_iff.1 hm
 refine V_call Tryz.call5 rfl rfl rfl rfl (portref2_RatioFrom_c (Dw := False) w15 hA num den hx20) ?_
 rintro _ w21 ⟨rfl, hk22⟩
 have ht23 := Kp.tr (Dw := False) hk22 hA hB
 replace h4 := El.tr (Dw := False) h4 ht23
 replace h17 := El.tr (Dw := False) h17 ht23
 replace hK := Tr.trans (Dw := False) hK ht23
 replace hB := Nat.le_trans hB ht23.ex.size
 replace hA := ht23.new
 refine V_mv rfl rfl ?_
 refine V_y (Y_extract rfl rfl) rfl rfl rfl ?_
 refine V_y (Y_extract rfl rfl) rfl rfl rfl ?_
 refine V_alloc Tryz.zeroValue23 rfl ?_
 intro b24 w25 h26
 refine V_storeNew h26 Tryz.sizeOf23 rfl rfl rfl rfl (by exact (List.forall_mem_cons.2 ⟨rfl, (List.forall_mem_cons.2 ⟨rfl, (fun _ h => nomatch h)⟩)⟩)) ?_
 intro w27 h28
 have hk30 := h28.kp (Dw := False)
 have h29 : El (α := staff_Ratio) A w27 b24 0 x20.1 := h28.el hA ⟨[.string x20.1.num], _, rfl, rfl, rfl⟩
 have ht31 := Kp.tr (Dw := False) hk30 hA hB
 replace h4 := El.tr (Dw := False) h4 ht31
 replace h17 := El.tr (Dw := False) h17 ht31
 replace hK := Tr.trans (Dw := False) hK ht31
 replace hB := Nat.le_trans hB ht31.ex.size
 replace hA := ht31.new
 refine V_as rfl rfl ?_
 refine V_to (fun _ _ => rfl) ?_
 refine C_seq ?_
 refine C_region ?_
 obtain ⟨h32, _⟩ := El_staff_Ratio h4
 refine V_y (Y_loadA h32 Tryz.isAgg23 Tryz.sizeOf23 rfl) rfl rfl rfl ?_
 refine V_mv rfl rfl ?_
 obtain ⟨x33, hx33, hm⟩ := Option.bind_eq_some_iff.1 hm
 refine V_call Tryz.call6 rfl rfl rfl rfl (staff_Decimal_c w27 hA (Fz.tr (Dw := False) hT hK) r_ digits hx33) ?_
 rintro _ w34 ⟨rfl, hk35⟩
 have ht36 := Kp.tr (Dw := False) hk35 hA hB
 replace h4 := El.tr (Dw := False) h4 ht36
 replace h17 := El.tr (Dw := False) h17 ht36
 replace h29 := El.tr (Dw := False) h29 ht36
 replace hK := Tr.trans (Dw := False) hK ht36
 replace hB := Nat.le_trans hB ht36.ex.size
 replace hA := ht36.new
 refine V_mv rfl rfl ?_
 refine V_y (Y_extract rfl rfl) rfl rfl rfl ?_
 refine V_y (Y_extract rfl rfl) rfl rfl rfl ?_
 refine V_as rfl rfl ?_
 refine V_as rfl rfl ?_
 refine V_to (fun _ _ => rfl) ?_
 refine C_seq ?_
 refine C_region ?_
 obtain ⟨h37, _⟩ := El_staff_Ratio h4
 refine V_y (Y_loadA h37 Tryz.isAgg23 Tryz.sizeOf23 rfl) rfl rfl rfl ?_
 refine V_mv rfl rfl ?_
 obtain ⟨x38, hx38, hm⟩ := Option.bind_eq_some_iff.1 hm
 refine V_call Tryz.call7 rfl rfl rfl rfl (portref2_DecimalOf_c w34 hA r_ digits hx38) ?_
 rintro _ w39 ⟨rfl, hk40⟩
 have ht41 := Kp.tr (Dw := False) hk40 hA hB
 replace h17 := El.tr (Dw := False) h17 ht41
 replace h29 := El.tr (Dw := False) h29 ht41
 replace hK := Tr.trans (Dw := False) hK ht41
 refine V_mv rfl rfl ?_
 refine V_y (Y_extract rfl rfl) rfl rfl rfl ?_
 refine V_y (Y_extract rfl rfl) rfl rfl rfl ?_
 refine V_as rfl rfl ?_
 refine V_as rfl rfl ?_
 refine V_to (fun _ _ => rfl) ?_
 refine C_seq ?_
 refine C_region ?_
 obtain ⟨h42, _⟩ := El_staff_Ratio h17
 refine V_y (Y_loadA h42 Tryz.isAgg23 Tryz.sizeOf23 rfl) rfl rfl rfl ?_
 obtain ⟨h43, _⟩ := El_staff_Ratio h29
 refine V_y (Y_loadA h43 Tryz.isAgg23 Tryz.sizeOf23 rfl) rfl rfl rfl ?_
 refine V_y (Y_eqlA (fun w => Tryz_eqt23_10000 x7.1.num x7.1.den x20.1.num x20.1.den w) Tryz_eqg23 rfl rfl) rfl rfl rfl ?_
 refine V_mv rfl rfl ?_
 refine V_cut 4 (fun _ : Unit => [(10, .int .i64 x7.2), (12, .int .i64 x20.2), (14, .int .i64 x33.2), (16, .int .i64 x38.2), (48, .bool ((strEq x7.1.num x20.1.num && (strEq x7.1.den x20.1.den)) && (strEq x33.1 x38.1)))]) (fun _ w' => w39 = w') ?_ ?_
 ·simp only [List.take, List.drop]
  rcases Bool.eq_false_or_eq_true (strEq x7.1.num x20.1.num && (strEq x7.1.den x20.1.den)) with hc44 | hc44
  ·refine V_ge rfl rfl rfl hc44 ?_
   refine V_mv rfl rfl ?_
   refine V_ge rfl rfl rfl hc44 ?_
   refine V_mv rfl rfl ?_
   refine V_ge rfl rfl rfl hc44 ?_
   refine V_y (Y_seql rfl rfl) rfl rfl rfl ?_
   refine V_y (Y_pick_te rfl hc44 rfl) rfl rfl rfl ?_
   exact V_end fun a ha => ⟨(), ha.sub ⟨rfl, rfl, rfl, rfl, (by rw [hc44]; rfl), trivial⟩, rfl⟩
  ·refine V_gn rfl rfl rfl hc44 rfl rfl rfl ?_
   refine V_gn rfl rfl rfl hc44 rfl rfl rfl ?_
   refine V_gn rfl rfl rfl hc44 rfl rfl rfl ?_
   refine V_y (Y_pick_fe rfl hc44 rfl) rfl rfl rfl ?_
   exact V_end fun a ha => ⟨(), ha.sub ⟨rfl, rfl, rfl, rfl, (by rw [hc44]; rfl), trivial⟩, rfl⟩
 simp only [List.take, List.drop]
 rintro _ _ rfl
 refine V_mv rfl rfl ?_
 refine V_cut 4 (fun _ : Unit => [(14, .int .i64 x33.2), (16, .int .i64 x38.2), (53, .bool (((strEq x7.1.num x20.1.num && (strEq x7.1.den x20.1.den)) && (strEq x33.1 x38.1)) && (x7.2 == x20.2)))]) (fun _ w' => w39 = w') ?_ ?_
 ·simp only [List.take, List.drop]
  rcases Bool.eq_false_or_eq_true (((strEq x7.1.num x20.1.num && (strEq x7.1.den x20.1.den)) && (strEq x33.1 x38.1))) with hc46 | hc46
  ·refine V_ge rfl rfl rfl hc46 ?_
   refine V_mv rfl rfl ?_
   refine V_ge rfl rfl rfl hc46 ?_
   refine V_mv rfl rfl ?_
   refine V_ge rfl rfl rfl hc46 ?_
   refine V_y (Y_eql rfl rfl) rfl rfl rfl ?_
   refine V_y (Y_pick_te rfl hc46 rfl) rfl rfl rfl ?_
   exact V_end fun a ha => ⟨(), ha.sub ⟨rfl, rfl, (by rw [hc46]; rfl), trivial⟩, rfl⟩
  ·refine V_gn rfl rfl rfl hc46 rfl rfl rfl ?_
   refine V_gn rfl rfl rfl hc46 rfl rfl rfl ?_
   refine V_gn rfl rfl rfl hc46 rfl rfl rfl ?_
   refine V_y (Y_pick_fe rfl hc46 rfl) rfl rfl rfl ?_
   exact V_end fun a ha => ⟨(), ha.sub ⟨rfl, rfl, (by rw [hc46]; rfl), trivial⟩, rfl⟩
 simp only [List.take, List.drop]
 rintro _ _ rfl
 refine V_mv rfl rfl ?_
 refine V_cut 4 (fun _ : Unit => [(58, .bool ((((strEq x7.1.num x20.1.num && (strEq x7.1.den x20.1.den)) && (strEq x33.1 x38.1)) && (x7.2 == x20.2)) && (x33.2 == x38.2)))]) (fun _ w' => w39 = w') ?_ ?_
 ·simp only [List.take, List.drop]
  rcases Bool.eq_false_or_eq_true ((((strEq x7.1.num x20.1.num && (strEq x7.1.den x20.1.den)) && (strEq x33.1 x38.1)) && (x7.2 == x20.2))) with hc48 | hc48
  ·refine V_ge rfl rfl rfl hc48 ?_
   refine V_mv rfl rfl ?_
   refine V_ge rfl rfl rfl hc48 ?_
   refine V_mv rfl rfl ?_
   refine V_ge rfl rfl rfl hc48 ?_
   refine V_y (Y_eql rfl rfl) rfl rfl rfl ?_
   refine V_y (Y_pick_te rfl hc48 rfl) rfl rfl rfl ?_
   exact V_end fun a ha => ⟨(), ha.sub ⟨(by rw [hc48]; rfl), trivial⟩, rfl⟩
  ·refine V_gn rfl rfl rfl hc48 rfl rfl rfl ?_
   refine V_gn rfl rfl rfl hc48 rfl rfl rfl ?_
   refine V_gn rfl rfl rfl hc48 rfl rfl rfl ?_
   refine V_y (Y_pick_fe rfl hc48 rfl) rfl rfl rfl ?_
   exact V_end fun a ha => ⟨(), ha.sub ⟨(by rw [hc48]; rfl), trivial⟩, rfl⟩
 simp only [List.take, List.drop]
 rintro _ _ rfl
 refine V_as rfl rfl ?_
 refine V_to (fun _ _ => rfl) ?_
 obtain rfl := Option.some.inj hm
 refine C_ret ?_
 try simp only [↓inBlock_ret, ↓then_ret]
 exact retQ rfl (Res.one Tryz.results3 rfl) ⟨rfl, hK.kp⟩

end Go.Proofs.YtblcbjmgpacliaaGreatDoor.W
