/-
  Written by program (gen.py) from the IR of the dump: each function computes its model.
-/
import Derived.Test.YtfdhiclmjfkflaaDoorTemplateFillsW0
namespace Go.Proofs.YtfdhiclmjfkflaaDoor.W
open Go Go.RowKit Go.Pu Go.Gw Go.Proofs Go.Proofs.YtfdhiclmjfkflaaDoor.M
set_option linter.unusedVariables false
set_option linter.unusedSimpArgs false
variable {Dw : Prop}

set_option maxRecDepth 4000 in
set_option maxHeartbeats 4000000 in
theorem know_templateReader_field_c (w : World) {A : Nat → Prop} {B : Nat} (hB : B ≤ w.heap.size) (hA : ∀ b, w.heap.size ≤ b → A b) (r_ : know_templateReader) (b_r_ : Nat) {L : List Ob} (hH : Hp B A w (obC b_r_ [.string r_.s, .int .i64 r_.at_, .bool r_.wrong] 72 :: L)) {r : (know_field × know_templateReader)} (hm : know_templateReader_field r_ = some r) : Ret Tryd.prog 28 #[.pointer (some ⟨b_r_, 0, none⟩)] w fun v w' => ∃ A1 : Nat → Prop, v = .agg #[.string r.1.name, .int .u8 (r.1.kind.toNat : Int), .string r.1.one, .string r.1.two] ∧ Hp B A1 w' (obC b_r_ [.string r.2.s, .int .i64 r.2.at_, .bool r.2.wrong] 72 :: L) ∧ Tr False B A w A1 w' := by
  unfold know_templateReader_field at hm
  refine enter Tryd.func28 rfl Tryd.ntmps28 rfl ?_
  have hK : Tr False B A w A w := Tr.refl (Dw := False) hA
  refine C_seq ?_
  refine C_region ?_
  refine V_allocH (Dw := False) (B := B) hH Tryd.zeroValue38 hB hA rfl ?_
  intro b1 w2 A3 hH4 ht5
  replace hK := Tr.trans (Dw := False) hK ht5
  replace hB := Nat.le_trans hB ht5.ex.size
  replace hA := ht5.new
  replace hH : Hp B A3 w2 (obC b1 [.string ByteArray.empty, .int .u8 0, .string ByteArray.empty, .string ByteArray.empty] 38 :: obC b_r_ [.string r_.s, .int .i64 r_.at_, .bool r_.wrong] 72 :: L) := hH4
  refine V_to (fun _ _ => rfl) ?_
  refine C_seq ?_
  refine C_region ?_
  refine V_y (Y_move rfl) rfl rfl rfl ?_
  replace hH : Hp B A3 w2 (obC b_r_ [.string r_.s, .int .i64 r_.at_, .bool r_.wrong] 72 :: obC b1 [.string ByteArray.empty, .int .u8 0, .string ByteArray.empty, .string ByteArray.empty] 38 :: L) := Hp.front hH (i := 1) rfl
  obtain ⟨x6, hx6, hm⟩ := Option.bind_eq_some_iff.1 hm
  refine V_call Tryd.call46 rfl rfl rfl rfl (know_templateReader_must_c (Dw := False) w2 hB hA r_ b_r_ 123 hH hx6) ?_
  rintro _ w7 ⟨A8, rfl, hH9, ht10⟩
  replace hK := Tr.trans (Dw := False) hK ht10
  replace hB := Nat.le_trans hB ht10.ex.size
  replace hA := ht10.new
  replace hH : Hp B A8 w7 (obC b_r_ [.string x6.s, .int .i64 x6.at_, .bool x6.wrong] 72 :: obC b1 [.string ByteArray.empty, .int .u8 0, .string ByteArray.empty, .string ByteArray.empty] 38 :: L) := hH9
  refine V_to (fun _ _ => rfl) ?_
  refine C_seq ?_
  refine C_region ?_
  refine V_y (Y_move rfl) rfl rfl rfl ?_
  obtain ⟨x11, hx11, hm⟩ := Option.bind_eq_some_iff.1 hm
  refine V_call Tryd.call46 rfl rfl rfl rfl (know_templateReader_must_c (Dw := False) w7 hB hA x6 b_r_ 123 hH hx11) ?_
  rintro _ w12 ⟨A13, rfl, hH14, ht15⟩
  replace hK := Tr.trans (Dw := False) hK ht15
  replace hB := Nat.le_trans hB ht15.ex.size
  replace hA := ht15.new
  replace hH : Hp B A13 w12 (obC b_r_ [.string x11.s, .int .i64 x11.at_, .bool x11.wrong] 72 :: obC b1 [.string ByteArray.empty, .int .u8 0, .string ByteArray.empty, .string ByteArray.empty] 38 :: L) := hH14
  refine V_to (fun _ _ => rfl) ?_
  refine C_seq ?_
  refine C_region ?_
  refine V_y (Y_move rfl) rfl rfl rfl ?_
  refine V_y (Y_nilCheck rfl) rfl rfl rfl ?_
  refine V_y (Y_fieldAddrC (off2 := 1) Tryd.underlying72 rfl Tryd.sizeOf3 (by decide) rfl rfl) rfl rfl rfl ?_
  refine V_y (Y_load (Hp.cell (j := 1) hH (i := 0) rfl rfl) Tryd.isAgg3 rfl) rfl rfl rfl ?_
  refine V_y (Y_assign rfl) rfl rfl rfl ?_
  refine V_to (fun _ _ => rfl) ?_
  refine C_seq ?_
  obtain ⟨o16, ho16, hm⟩ := Option.bind_eq_some_iff.1 hm
  refine C_cutG (ι := (know_templateReader × (Nat → Prop))) (fun ⟨s17, A23⟩ => [(0, .pointer (some ⟨b_r_, 0, none⟩)), (2, .pointer (some ⟨b1, 0, none⟩)), (3, .int .i64 x11.at_)]) (fun ⟨s17, A23⟩ => fun w' => o16 = .fin s17 ∧ Hp B A23 w' (obC b_r_ [.string s17.s, .int .i64 s17.at_, .bool s17.wrong] 72 :: obC b1 [.string ByteArray.empty, .int .u8 0, .string ByteArray.empty, .string ByteArray.empty] 38 :: L) ∧ Tr False B A13 w12 A23 w') ?_ ?_
  · refine C_block ?_
    refine C_while ho16 (fun s25 a w' => ∃ i : (Nat → Prop), Has ⟨140, [], none⟩ a ([(0, .pointer (some ⟨b_r_, 0, none⟩)), (2, .pointer (some ⟨b1, 0, none⟩)), (3, .int .i64 x11.at_)]) ∧ Hp B i w' (obC b_r_ [.string s25.s, .int .i64 s25.at_, .bool s25.wrong] 72 :: obC b1 [.string ByteArray.empty, .int .u8 0, .string ByteArray.empty, .string ByteArray.empty] 38 :: L) ∧ Tr False B A13 w12 i w') (fun a ha => ⟨A13, ha.sub ⟨rfl, rfl, rfl, trivial⟩, ⟨hH, Tr.refl (Dw := False) hA⟩⟩) ?_
    rintro K s25 a w26 ⟨A27, ha52, hH28, hr18⟩ K35
    refine C_of ?_ ha52
    replace hK := Tr.trans (Dw := False) hK hr18
    replace hB := Nat.le_trans hB hr18.ex.size
    replace hA := hr18.new
    replace hH : Hp B A27 w26 (obC b_r_ [.string s25.s, .int .i64 s25.at_, .bool s25.wrong] 72 :: obC b1 [.string ByteArray.empty, .int .u8 0, .string ByteArray.empty, .string ByteArray.empty] 38 :: L) := hH28
    obtain ⟨x29, h30, h31⟩ := K35
    refine C_seq ?_
    refine C_seq ?_
    refine C_region_q (Dw := False) Tryd_mixed (by kernel_rfl) ?_
    refine VQ_y (fun w' hw' => Y_move rfl) rfl rfl rfl ?_
    refine VQ_y (fun w' hw' => Y_nilCheck rfl) rfl rfl rfl ?_
    refine VQ_y (fun w' hw' => Y_fieldAddrC (off2 := 2) Tryd.underlying72 rfl Tryd.sizeOf4 (by decide) rfl rfl) rfl rfl rfl ?_
    refine VQ_y (fun w' hw' => Y_load ((World.cell?_of_block (hw'.block _ (World.block_lt_of_cell? _ _ (Hp.cell (j := 2) hH (i := 0) rfl rfl)))).trans (Hp.cell (j := 2) hH (i := 0) rfl rfl)) Tryd.isAgg4 rfl) rfl rfl rfl ?_
    refine VQ_y (fun w' hw' => Y_not rfl) rfl rfl rfl ?_
    refine VQ_y (fun w' hw' => Y_move rfl) rfl rfl rfl ?_
    refine VQ_cut 11 (fun _ : Unit => [(0, .pointer (some ⟨b_r_, 0, none⟩)), (2, .pointer (some ⟨b1, 0, none⟩)), (3, .int .i64 x11.at_), (29, .bool ((!s25.wrong) && (decide (s25.at_ < (s25.s.size : Int)))))]) (fun _ => True) ?_ ?_
    · simp only [List.take, List.drop]
      rcases Bool.eq_false_or_eq_true (!s25.wrong) with hc36 | hc36
      · refine VQ_ge rfl rfl rfl hc36 ?_
        refine VQ_y (fun w' hw' => Y_move rfl) rfl rfl rfl ?_
        refine VQ_ge rfl rfl rfl hc36 ?_
        refine VQ_y (fun w' hw' => Y_nilCheck rfl) rfl rfl rfl ?_
        refine VQ_ge rfl rfl rfl hc36 ?_
        refine VQ_y (fun w' hw' => Y_fieldAddrC (off2 := 1) Tryd.underlying72 rfl Tryd.sizeOf3 (by decide) rfl rfl) rfl rfl rfl ?_
        refine VQ_ge rfl rfl rfl hc36 ?_
        refine VQ_y (fun w' hw' => Y_load ((World.cell?_of_block (hw'.block _ (World.block_lt_of_cell? _ _ (Hp.cell (j := 1) hH (i := 0) rfl rfl)))).trans (Hp.cell (j := 1) hH (i := 0) rfl rfl)) Tryd.isAgg3 rfl) rfl rfl rfl ?_
        refine VQ_ge rfl rfl rfl hc36 ?_
        refine VQ_y (fun w' hw' => Y_move rfl) rfl rfl rfl ?_
        refine VQ_ge rfl rfl rfl hc36 ?_
        refine VQ_y (fun w' hw' => Y_nilCheck rfl) rfl rfl rfl ?_
        refine VQ_ge rfl rfl rfl hc36 ?_
        refine VQ_y (fun w' hw' => Y_fieldAddrC (off2 := 0) Tryd.underlying72 rfl Tryd.sizeOf9 (by decide) rfl rfl) rfl rfl rfl ?_
        refine VQ_ge rfl rfl rfl hc36 ?_
        refine VQ_y (fun w' hw' => Y_load ((World.cell?_of_block (hw'.block _ (World.block_lt_of_cell? _ _ (Hp.cell (j := 0) hH (i := 0) rfl rfl)))).trans (Hp.cell (j := 0) hH (i := 0) rfl rfl)) Tryd.isAgg9 rfl) rfl rfl rfl ?_
        refine VQ_ge rfl rfl rfl hc36 ?_
        refine VQ_y (fun w' hw' => Y_lenStr rfl Tryd.underlying9 rfl) rfl rfl rfl ?_
        refine VQ_ge rfl rfl rfl hc36 ?_
        refine VQ_y (fun w' hw' => Y_lss rfl rfl) rfl rfl rfl ?_
        refine VQ_y (fun _ _ => Y_pick_te rfl hc36 rfl) rfl rfl rfl ?_
        exact VQ_end fun a ha => ⟨(), ha.sub ⟨rfl, rfl, rfl, (by rw [hc36]; rfl), trivial⟩, trivial⟩
      · refine VQ_gn rfl rfl rfl hc36 rfl rfl rfl ?_
        refine VQ_gn rfl rfl rfl hc36 rfl rfl rfl ?_
        refine VQ_gn rfl rfl rfl hc36 rfl rfl rfl ?_
        refine VQ_gn rfl rfl rfl hc36 rfl rfl rfl ?_
        refine VQ_gn rfl rfl rfl hc36 rfl rfl rfl ?_
        refine VQ_gn rfl rfl rfl hc36 rfl rfl rfl ?_
        refine VQ_gn rfl rfl rfl hc36 rfl rfl rfl ?_
        refine VQ_gn rfl rfl rfl hc36 rfl rfl rfl ?_
        refine VQ_gn rfl rfl rfl hc36 rfl rfl rfl ?_
        refine VQ_gn rfl rfl rfl hc36 rfl rfl rfl ?_
        refine VQ_y (fun _ _ => Y_pick_fe rfl hc36 rfl) rfl rfl rfl ?_
        exact VQ_end fun a ha => ⟨(), ha.sub ⟨rfl, rfl, rfl, (by rw [hc36]; rfl), trivial⟩, trivial⟩
    simp only [List.take, List.drop]
    rintro _ _
    refine VQ_y (fun w' hw' => Y_move rfl) rfl rfl rfl ?_
    refine VQ_cut 8 (fun _ : Unit => [(0, .pointer (some ⟨b_r_, 0, none⟩)), (2, .pointer (some ⟨b1, 0, none⟩)), (3, .int .i64 x11.at_), (38, .bool (((!s25.wrong) && (decide (s25.at_ < (s25.s.size : Int)))) && (decide ((w64 (s25.at_ - x11.at_)) < 20))))]) (fun _ => True) ?_ ?_
    · simp only [List.take, List.drop]
      rcases Bool.eq_false_or_eq_true (((!s25.wrong) && (decide (s25.at_ < (s25.s.size : Int))))) with hc38 | hc38
      · refine VQ_ge rfl rfl rfl hc38 ?_
        refine VQ_y (fun w' hw' => Y_move rfl) rfl rfl rfl ?_
        refine VQ_ge rfl rfl rfl hc38 ?_
        refine VQ_y (fun w' hw' => Y_nilCheck rfl) rfl rfl rfl ?_
        refine VQ_ge rfl rfl rfl hc38 ?_
        refine VQ_y (fun w' hw' => Y_fieldAddrC (off2 := 1) Tryd.underlying72 rfl Tryd.sizeOf3 (by decide) rfl rfl) rfl rfl rfl ?_
        refine VQ_ge rfl rfl rfl hc38 ?_
        refine VQ_y (fun w' hw' => Y_load ((World.cell?_of_block (hw'.block _ (World.block_lt_of_cell? _ _ (Hp.cell (j := 1) hH (i := 0) rfl rfl)))).trans (Hp.cell (j := 1) hH (i := 0) rfl rfl)) Tryd.isAgg3 rfl) rfl rfl rfl ?_
        refine VQ_ge rfl rfl rfl hc38 ?_
        refine VQ_y (fun w' hw' => Y_move rfl) rfl rfl rfl ?_
        refine VQ_ge rfl rfl rfl hc38 ?_
        refine VQ_y (fun w' hw' => Y_subI rfl rfl) rfl rfl rfl ?_
        refine VQ_ge rfl rfl rfl hc38 ?_
        refine VQ_y (fun w' hw' => Y_lss rfl rfl) rfl rfl rfl ?_
        refine VQ_y (fun _ _ => Y_pick_te rfl hc38 rfl) rfl rfl rfl ?_
        exact VQ_end fun a ha => ⟨(), ha.sub ⟨rfl, rfl, rfl, (by rw [hc38]; rfl), trivial⟩, trivial⟩
      · refine VQ_gn rfl rfl rfl hc38 rfl rfl rfl ?_
        refine VQ_gn rfl rfl rfl hc38 rfl rfl rfl ?_
        refine VQ_gn rfl rfl rfl hc38 rfl rfl rfl ?_
        refine VQ_gn rfl rfl rfl hc38 rfl rfl rfl ?_
        refine VQ_gn rfl rfl rfl hc38 rfl rfl rfl ?_
        refine VQ_gn rfl rfl rfl hc38 rfl rfl rfl ?_
        refine VQ_gn rfl rfl rfl hc38 rfl rfl rfl ?_
        refine VQ_y (fun _ _ => Y_pick_fe rfl hc38 rfl) rfl rfl rfl ?_
        exact VQ_end fun a ha => ⟨(), ha.sub ⟨rfl, rfl, rfl, (by rw [hc38]; rfl), trivial⟩, trivial⟩
    simp only [List.take, List.drop]
    rintro _ _
    refine VQ_y (fun w' hw' => Y_move rfl) rfl rfl rfl ?_
    obtain ⟨s41, hs41, h30⟩ := Option.bind_eq_some_iff.1 h30
    refine VQ_cut 11 (fun _ : Unit => [(0, .pointer (some ⟨b_r_, 0, none⟩)), (2, .pointer (some ⟨b1, 0, none⟩)), (3, .int .i64 x11.at_), (50, .bool s41)]) (fun _ => True) ?_ ?_
    · simp only [List.take, List.drop]
      rcases Bool.eq_false_or_eq_true ((((!s25.wrong) && (decide (s25.at_ < (s25.s.size : Int)))) && (decide ((w64 (s25.at_ - x11.at_)) < 20)))) with hc40 | hc40
      · rw [if_pos hc40] at hs41
        refine VQ_ge rfl rfl rfl hc40 ?_
        refine VQ_y (fun w' hw' => Y_move rfl) rfl rfl rfl ?_
        refine VQ_ge rfl rfl rfl hc40 ?_
        refine VQ_y (fun w' hw' => Y_nilCheck rfl) rfl rfl rfl ?_
        refine VQ_ge rfl rfl rfl hc40 ?_
        refine VQ_y (fun w' hw' => Y_fieldAddrC (off2 := 0) Tryd.underlying72 rfl Tryd.sizeOf9 (by decide) rfl rfl) rfl rfl rfl ?_
        refine VQ_ge rfl rfl rfl hc40 ?_
        refine VQ_y (fun w' hw' => Y_load ((World.cell?_of_block (hw'.block _ (World.block_lt_of_cell? _ _ (Hp.cell (j := 0) hH (i := 0) rfl rfl)))).trans (Hp.cell (j := 0) hH (i := 0) rfl rfl)) Tryd.isAgg9 rfl) rfl rfl rfl ?_
        refine VQ_ge rfl rfl rfl hc40 ?_
        refine VQ_y (fun w' hw' => Y_move rfl) rfl rfl rfl ?_
        refine VQ_ge rfl rfl rfl hc40 ?_
        refine VQ_y (fun w' hw' => Y_nilCheck rfl) rfl rfl rfl ?_
        refine VQ_ge rfl rfl rfl hc40 ?_
        refine VQ_y (fun w' hw' => Y_fieldAddrC (off2 := 1) Tryd.underlying72 rfl Tryd.sizeOf3 (by decide) rfl rfl) rfl rfl rfl ?_
        refine VQ_ge rfl rfl rfl hc40 ?_
        refine VQ_y (fun w' hw' => Y_load ((World.cell?_of_block (hw'.block _ (World.block_lt_of_cell? _ _ (Hp.cell (j := 1) hH (i := 0) rfl rfl)))).trans (Hp.cell (j := 1) hH (i := 0) rfl rfl)) Tryd.isAgg3 rfl) rfl rfl rfl ?_
        refine VQ_ge rfl rfl rfl hc40 ?_
        obtain ⟨x42, hx42, hs41⟩ := Option.bind_eq_some_iff.1 hs41
        refine VQ_y (fun w' hw' => Y_indexS hx42 Tryd.underlying9 rfl rfl) rfl rfl rfl ?_
        refine VQ_ge rfl rfl rfl hc40 ?_
        refine VQ_call (.bool (know_nameByte (x42.toNat : Int))) Tryd.call20 rfl rfl rfl rfl (fun w' hw' => (know_nameByte_c w' (x42.toNat : Int)).mono (fun _ _ h => ⟨h.1, h.2 ▸ hw'⟩)) ?_
        refine VQ_y (fun _ _ => Y_pick_te rfl hc40 rfl) rfl rfl rfl ?_
        obtain rfl := Option.some.inj hs41
        exact VQ_end fun a ha => ⟨(), ha.sub ⟨rfl, rfl, rfl, rfl, trivial⟩, trivial⟩
      · rw [if_neg (nt hc40)] at hs41
        refine VQ_gn rfl rfl rfl hc40 rfl rfl rfl ?_
        refine VQ_gn rfl rfl rfl hc40 rfl rfl rfl ?_
        refine VQ_gn rfl rfl rfl hc40 rfl rfl rfl ?_
        refine VQ_gn rfl rfl rfl hc40 rfl rfl rfl ?_
        refine VQ_gn rfl rfl rfl hc40 rfl rfl rfl ?_
        refine VQ_gn rfl rfl rfl hc40 rfl rfl rfl ?_
        refine VQ_gn rfl rfl rfl hc40 rfl rfl rfl ?_
        refine VQ_gn rfl rfl rfl hc40 rfl rfl rfl ?_
        refine VQ_gn rfl rfl rfl hc40 rfl rfl rfl ?_
        refine VQ_gn rfl rfl rfl hc40 rfl rfl rfl ?_
        refine VQ_y (fun _ _ => Y_pick_fe rfl hc40 rfl) rfl rfl rfl ?_
        obtain rfl := Option.some.inj hs41
        exact VQ_end fun a ha => ⟨(), ha.sub ⟨rfl, rfl, rfl, rfl, trivial⟩, trivial⟩
    simp only [List.take, List.drop]
    rintro _ _
    refine VQ_to (fun _ _ => rfl) (fun w43 hk44 => ?_)
    have ht45 := Kp.tr (Dw := False) hk44 hA hB
    replace hH := Hp.kp (Dw := False) hH hk44
    replace hK := Tr.trans (Dw := False) hK ht45
    replace hr18 := Tr.trans (Dw := False) hr18 ht45
    replace hB := Nat.le_trans hB ht45.ex.size
    replace hA := ht45.new
    refine C_cond rfl (fun hc46 => ?_) (fun hc46 => ?_)
    · rw [if_pos hc46] at h30
      refine C_skip_to (fun _ _ => rfl) ?_
      refine C_block ?_
      refine C_region ?_
      refine V_y (Y_move rfl) rfl rfl rfl ?_
      refine V_y (Y_nilCheck rfl) rfl rfl rfl ?_
      refine V_y (Y_fieldAddrC (off2 := 1) Tryd.underlying72 rfl Tryd.sizeOf3 (by decide) rfl rfl) rfl rfl rfl ?_
      refine V_y (Y_load (Hp.cell (j := 1) hH (i := 0) rfl rfl) Tryd.isAgg3 rfl) rfl rfl rfl ?_
      refine V_y (Y_addI rfl rfl) rfl rfl rfl ?_
      refine V_y (Y_nilCheck rfl) rfl rfl rfl ?_
      refine V_y (Y_fieldAddrC (off2 := 1) Tryd.underlying72 rfl Tryd.sizeOf3 (by decide) rfl rfl) rfl rfl rfl ?_
      refine V_storeC (Dw := False) (off := 1) (ds := [.string s25.s, .int .i64 (w64 (s25.at_ + 1)), .bool s25.wrong]) hH (i := 0) rfl Tryd.sizeOf3 rfl (Nat.le_of_ble_eq_true rfl) (by simp [Value.cells, Value.oneCell']) rfl hB hA rfl rfl ?_
      intro w47 hH48 ht49
      replace hK := Tr.trans (Dw := False) hK ht49
      replace hr18 := Tr.trans (Dw := False) hr18 ht49
      replace hB := Nat.le_trans hB ht49.ex.size
      replace hA := ht49.new
      replace hH : Hp B A27 w47 (obC b_r_ [.string s25.s, .int .i64 (w64 (s25.at_ + 1)), .bool s25.wrong] 72 :: obC b1 [.string ByteArray.empty, .int .u8 0, .string ByteArray.empty, .string ByteArray.empty] 38 :: L) := hH48
      obtain rfl := Option.some.inj h30
      refine V_end (fun a ha50 => ?_)
      exact ⟨(⟨s25.s, w64 (s25.at_ + 1), s25.wrong⟩ : know_templateReader), h31, ⟨A27, ha50.sub ⟨rfl, rfl, rfl, trivial⟩, ⟨hH, hr18⟩⟩⟩
    · rw [if_neg (nt hc46)] at h30
      obtain rfl := Option.some.inj h30
      refine C_exit (fun a ha51 => ?_)
      exact ⟨(s25, A27), ha51.sub ⟨rfl, rfl, rfl, trivial⟩, ⟨h31.symm, hH, hr18⟩⟩
  rintro ⟨s17, A23⟩ w20 ⟨rfl, hH24, hk21⟩ a ha22
  rw [Lp.andThen_fin] at hm
  replace hK := Tr.trans (Dw := False) hK hk21
  replace hB := Nat.le_trans hB hk21.ex.size
  replace hA := hk21.new
  replace hH : Hp B A23 w20 (obC b_r_ [.string s17.s, .int .i64 s17.at_, .bool s17.wrong] 72 :: obC b1 [.string ByteArray.empty, .int .u8 0, .string ByteArray.empty, .string ByteArray.empty] 38 :: L) := hH24
  refine C_at (n := ⟨140, [], none⟩) (fun _ _ => rfl) ?_ ha22
  refine C_seq ?_
  refine C_region_def (Dw := False) (B := B) (k := 11) [(4, 38, .agg #[.string ByteArray.empty, .int .u8 0, .string ByteArray.empty, .string ByteArray.empty])] [(68, 10)] Tryd_mixed (by kernel_rfl) rfl ⟨⟨_, _, _, rfl, by simp⟩, Tryd.zeroValue38, trivial⟩ ⟨⟨_, _, _, rfl, by decide, by decide⟩, by decide, rfl, Tryd.sizeOf38, trivial⟩ rfl rfl (by decide) hH hB hA ?_
  simp only [List.take]
  refine VQ_y (fun w' hw' => Y_move rfl) rfl rfl rfl ?_
  refine VQ_y (fun w' hw' => Y_nilCheck rfl) rfl rfl rfl ?_
  refine VQ_y (fun w' hw' => Y_fieldAddrC (off2 := 0) Tryd.underlying72 rfl Tryd.sizeOf9 (by decide) rfl rfl) rfl rfl rfl ?_
  refine VQ_y (fun w' hw' => Y_load ((World.cell?_of_block (hw'.block _ (World.block_lt_of_cell? _ _ (Hp.cell (j := 0) hH (i := 0) rfl rfl)))).trans (Hp.cell (j := 0) hH (i := 0) rfl rfl)) Tryd.isAgg9 rfl) rfl rfl rfl ?_
  refine VQ_y (fun w' hw' => Y_move rfl) rfl rfl rfl ?_
  refine VQ_y (fun w' hw' => Y_move rfl) rfl rfl rfl ?_
  refine VQ_y (fun w' hw' => Y_nilCheck rfl) rfl rfl rfl ?_
  refine VQ_y (fun w' hw' => Y_fieldAddrC (off2 := 1) Tryd.underlying72 rfl Tryd.sizeOf3 (by decide) rfl rfl) rfl rfl rfl ?_
  refine VQ_y (fun w' hw' => Y_load ((World.cell?_of_block (hw'.block _ (World.block_lt_of_cell? _ _ (Hp.cell (j := 1) hH (i := 0) rfl rfl)))).trans (Hp.cell (j := 1) hH (i := 0) rfl rfl)) Tryd.isAgg3 rfl) rfl rfl rfl ?_
  obtain ⟨x59, hx59, hm⟩ := Option.bind_eq_some_iff.1 hm
  refine VQ_y (fun w' hw' => Y_sliceSLH hx59 Tryd.underlying9 rfl rfl rfl) rfl rfl rfl ?_
  refine VQ_y (fun w' hw' => Y_build Tryd.underlying38 Tryd.zeroValue38 (Tryd_places38 _ Tryd.underlying38) rfl (by with_unfolding_all rfl)) rfl rfl rfl ?_
  refine VQ_end fun a ha => ⟨_, [.agg #[.string x59, .int .u8 0, .string ByteArray.empty, .string ByteArray.empty]], ha, rfl, rfl, ⟨rfl, (by exact (List.forall_mem_cons.2 ⟨rfl, (List.forall_mem_cons.2 ⟨rfl, (List.forall_mem_cons.2 ⟨rfl, (List.forall_mem_cons.2 ⟨rfl, (fun _ h => nomatch h)⟩)⟩)⟩)⟩)), trivial⟩, fun b53 w54 A55 hH56 ht57 a ha58 => ?_⟩
  replace hK := Tr.trans (Dw := False) hK ht57
  replace hB := Nat.le_trans hB ht57.ex.size
  replace hA := ht57.new
  replace hH : Hp B A55 w54 (obC (b53 0) [.string x59, .int .u8 0, .string ByteArray.empty, .string ByteArray.empty] 38 :: obC b_r_ [.string s17.s, .int .i64 s17.at_, .bool s17.wrong] 72 :: obC b1 [.string ByteArray.empty, .int .u8 0, .string ByteArray.empty, .string ByteArray.empty] 38 :: L) := hH56
  refine C_at (n := ⟨140, [], none⟩) (fun _ _ => rfl) ?_ ha58
  refine C_seq ?_
  refine C_seq ?_
  refine C_region ?_
  refine V_y (Y_fieldAddrC (off2 := 0) Tryd.underlying38 rfl Tryd.sizeOf9 (by decide) rfl rfl) rfl rfl rfl ?_
  refine V_y (Y_load (Hp.cell (j := 0) hH (i := 0) rfl rfl) Tryd.isAgg9 rfl) rfl rfl rfl ?_
  refine V_y (Y_seql rfl rfl) rfl rfl rfl ?_
  refine V_to (fun _ _ => rfl) ?_
  obtain ⟨s61, ho60, hm⟩ := Option.bind_eq_some_iff.1 hm
  refine C_cutG (ι := (Nat → Prop)) (fun (A66 : (Nat → Prop)) => [(0, .pointer (some ⟨b_r_, 0, none⟩)), (2, .pointer (some ⟨b1, 0, none⟩)), (4, .pointer (some ⟨(b53 0), 0, none⟩))]) (fun (A66 : (Nat → Prop)) => fun w' => Hp B A66 w' (obC (b53 0) [.string x59, .int .u8 0, .string ByteArray.empty, .string ByteArray.empty] 38 :: obC b_r_ [.string s61.s, .int .i64 s61.at_, .bool s61.wrong] 72 :: obC b1 [.string ByteArray.empty, .int .u8 0, .string ByteArray.empty, .string ByteArray.empty] 38 :: L) ∧ Tr False B A55 w54 A66 w') ?_ ?_
  · have hr62 : Tr False B A55 w54 A55 w54 := Tr.refl (Dw := False) hA
    refine C_cond rfl (fun hc68 => ?_) (fun hc68 => ?_)
    · rw [if_pos hc68] at ho60
      refine C_region ?_
      refine V_y (Y_move rfl) rfl rfl rfl ?_
      refine V_y (Y_nilCheck rfl) rfl rfl rfl ?_
      refine V_y (Y_fieldAddrC (off2 := 2) Tryd.underlying72 rfl Tryd.sizeOf4 (by decide) rfl rfl) rfl rfl rfl ?_
      refine V_storeC (Dw := False) (off := 2) (ds := [.string s17.s, .int .i64 s17.at_, .bool true]) hH (i := 1) rfl Tryd.sizeOf4 rfl (Nat.le_of_ble_eq_true rfl) (by simp [Value.cells, Value.oneCell']) rfl hB hA rfl rfl ?_
      intro w69 hH70 ht71
      replace hK := Tr.trans (Dw := False) hK ht71
      replace hr62 := Tr.trans (Dw := False) hr62 ht71
      replace hB := Nat.le_trans hB ht71.ex.size
      replace hA := ht71.new
      replace hH : Hp B A55 w69 (obC (b53 0) [.string x59, .int .u8 0, .string ByteArray.empty, .string ByteArray.empty] 38 :: obC b_r_ [.string s17.s, .int .i64 s17.at_, .bool true] 72 :: obC b1 [.string ByteArray.empty, .int .u8 0, .string ByteArray.empty, .string ByteArray.empty] 38 :: L) := hH70
      obtain rfl := Option.some.inj ho60
      refine V_end (fun a ha72 => ?_)
      exact ⟨A55, ha72.sub ⟨rfl, rfl, rfl, trivial⟩, ⟨hH, hr62⟩⟩
    · rw [if_neg (nt hc68)] at ho60
      obtain rfl := Option.some.inj ho60
      refine C_skip (fun a ha73 => ?_)
      exact ⟨A55, ha73.sub ⟨rfl, rfl, rfl, trivial⟩, ⟨hH, hr62⟩⟩
  rintro A66 w63 ⟨hH67, hk64⟩ a ha65
  replace hK := Tr.trans (Dw := False) hK hk64
  replace hB := Nat.le_trans hB hk64.ex.size
  replace hA := hk64.new
  replace hH : Hp B A66 w63 (obC (b53 0) [.string x59, .int .u8 0, .string ByteArray.empty, .string ByteArray.empty] 38 :: obC b_r_ [.string s61.s, .int .i64 s61.at_, .bool s61.wrong] 72 :: obC b1 [.string ByteArray.empty, .int .u8 0, .string ByteArray.empty, .string ByteArray.empty] 38 :: L) := hH67
  refine C_at (n := ⟨140, [], none⟩) (fun _ _ => rfl) ?_ ha65
  refine C_seq ?_
  refine C_seq ?_
  refine C_region_q (Dw := False) Tryd_mixed (by kernel_rfl) ?_
  refine VQ_y (fun w' hw' => Y_move rfl) rfl rfl rfl ?_
  refine VQ_y (fun w' hw' => Y_nilCheck rfl) rfl rfl rfl ?_
  refine VQ_y (fun w' hw' => Y_fieldAddrC (off2 := 2) Tryd.underlying72 rfl Tryd.sizeOf4 (by decide) rfl rfl) rfl rfl rfl ?_
  refine VQ_y (fun w' hw' => Y_load ((World.cell?_of_block (hw'.block _ (World.block_lt_of_cell? _ _ (Hp.cell (j := 2) hH (i := 1) rfl rfl)))).trans (Hp.cell (j := 2) hH (i := 1) rfl rfl)) Tryd.isAgg4 rfl) rfl rfl rfl ?_
  refine VQ_y (fun w' hw' => Y_move rfl) rfl rfl rfl ?_
  refine VQ_cut 11 (fun _ : Unit => [(0, .pointer (some ⟨b_r_, 0, none⟩)), (2, .pointer (some ⟨b1, 0, none⟩)), (4, .pointer (some ⟨(b53 0), 0, none⟩)), (90, .bool (s61.wrong || (s61.at_ == (s61.s.size : Int))))]) (fun _ => True) ?_ ?_
  · simp only [List.take, List.drop]
    rcases Bool.eq_false_or_eq_true (s61.wrong) with hc74 | hc74
    · refine VQ_gn rfl rfl rfl hc74 rfl rfl rfl ?_
      refine VQ_gn rfl rfl rfl hc74 rfl rfl rfl ?_
      refine VQ_gn rfl rfl rfl hc74 rfl rfl rfl ?_
      refine VQ_gn rfl rfl rfl hc74 rfl rfl rfl ?_
      refine VQ_gn rfl rfl rfl hc74 rfl rfl rfl ?_
      refine VQ_gn rfl rfl rfl hc74 rfl rfl rfl ?_
      refine VQ_gn rfl rfl rfl hc74 rfl rfl rfl ?_
      refine VQ_gn rfl rfl rfl hc74 rfl rfl rfl ?_
      refine VQ_gn rfl rfl rfl hc74 rfl rfl rfl ?_
      refine VQ_gn rfl rfl rfl hc74 rfl rfl rfl ?_
      refine VQ_y (fun _ _ => Y_pick_te rfl hc74 rfl) rfl rfl rfl ?_
      exact VQ_end fun a ha => ⟨(), ha.sub ⟨rfl, rfl, rfl, (by rw [hc74]; rfl), trivial⟩, trivial⟩
    · refine VQ_ge rfl rfl rfl hc74 ?_
      refine VQ_y (fun w' hw' => Y_move rfl) rfl rfl rfl ?_
      refine VQ_ge rfl rfl rfl hc74 ?_
      refine VQ_y (fun w' hw' => Y_nilCheck rfl) rfl rfl rfl ?_
      refine VQ_ge rfl rfl rfl hc74 ?_
      refine VQ_y (fun w' hw' => Y_fieldAddrC (off2 := 1) Tryd.underlying72 rfl Tryd.sizeOf3 (by decide) rfl rfl) rfl rfl rfl ?_
      refine VQ_ge rfl rfl rfl hc74 ?_
      refine VQ_y (fun w' hw' => Y_load ((World.cell?_of_block (hw'.block _ (World.block_lt_of_cell? _ _ (Hp.cell (j := 1) hH (i := 1) rfl rfl)))).trans (Hp.cell (j := 1) hH (i := 1) rfl rfl)) Tryd.isAgg3 rfl) rfl rfl rfl ?_
      refine VQ_ge rfl rfl rfl hc74 ?_
      refine VQ_y (fun w' hw' => Y_move rfl) rfl rfl rfl ?_
      refine VQ_ge rfl rfl rfl hc74 ?_
      refine VQ_y (fun w' hw' => Y_nilCheck rfl) rfl rfl rfl ?_
      refine VQ_ge rfl rfl rfl hc74 ?_
      refine VQ_y (fun w' hw' => Y_fieldAddrC (off2 := 0) Tryd.underlying72 rfl Tryd.sizeOf9 (by decide) rfl rfl) rfl rfl rfl ?_
      refine VQ_ge rfl rfl rfl hc74 ?_
      refine VQ_y (fun w' hw' => Y_load ((World.cell?_of_block (hw'.block _ (World.block_lt_of_cell? _ _ (Hp.cell (j := 0) hH (i := 1) rfl rfl)))).trans (Hp.cell (j := 0) hH (i := 1) rfl rfl)) Tryd.isAgg9 rfl) rfl rfl rfl ?_
      refine VQ_ge rfl rfl rfl hc74 ?_
      refine VQ_y (fun w' hw' => Y_lenStr rfl Tryd.underlying9 rfl) rfl rfl rfl ?_
      refine VQ_ge rfl rfl rfl hc74 ?_
      refine VQ_y (fun w' hw' => Y_eql rfl rfl) rfl rfl rfl ?_
      refine VQ_y (fun _ _ => Y_pick_fe rfl hc74 rfl) rfl rfl rfl ?_
      exact VQ_end fun a ha => ⟨(), ha.sub ⟨rfl, rfl, rfl, (by rw [hc74]; rfl), trivial⟩, trivial⟩
  simp only [List.take, List.drop]
  rintro _ _
  refine VQ_to (fun _ _ => rfl) (fun w76 hk77 => ?_)
  have ht78 := Kp.tr (Dw := False) hk77 hA hB
  replace hH := Hp.kp (Dw := False) hH hk77
  replace hK := Tr.trans (Dw := False) hK ht78
  replace hB := Nat.le_trans hB ht78.ex.size
  replace hA := ht78.new
  refine C_cond rfl (fun hc79 => ?_) (fun hc79 => ?_)
  · rw [if_pos hc79] at hm
    refine C_seq ?_
    refine C_region ?_
    refine V_y (Y_move rfl) rfl rfl rfl ?_
    refine V_y (Y_nilCheck rfl) rfl rfl rfl ?_
    refine V_y (Y_fieldAddrC (off2 := 2) Tryd.underlying72 rfl Tryd.sizeOf4 (by decide) rfl rfl) rfl rfl rfl ?_
    refine V_storeC (Dw := False) (off := 2) (ds := [.string s61.s, .int .i64 s61.at_, .bool true]) hH (i := 1) rfl Tryd.sizeOf4 rfl (Nat.le_of_ble_eq_true rfl) (by simp [Value.cells, Value.oneCell']) rfl hB hA rfl rfl ?_
    intro w80 hH81 ht82
    replace hK := Tr.trans (Dw := False) hK ht82
    replace hB := Nat.le_trans hB ht82.ex.size
    replace hA := ht82.new
    replace hH : Hp B A66 w80 (obC (b53 0) [.string x59, .int .u8 0, .string ByteArray.empty, .string ByteArray.empty] 38 :: obC b_r_ [.string s61.s, .int .i64 s61.at_, .bool true] 72 :: obC b1 [.string ByteArray.empty, .int .u8 0, .string ByteArray.empty, .string ByteArray.empty] 38 :: L) := hH81
    refine V_to (fun _ _ => rfl) ?_
    refine C_seq ?_
    refine C_region ?_
    refine V_y (Y_loadA (Hp.part (off := 0) (n := 4) (ds := [.string x59, .int .u8 0, .string ByteArray.empty, .string ByteArray.empty]) hH (i := 0) rfl rfl) Tryd.isAgg38 Tryd.sizeOf38 rfl) rfl rfl rfl ?_
    refine V_storeC (Dw := False) (off := 0) (ds := [.string x59, .int .u8 0, .string ByteArray.empty, .string ByteArray.empty]) hH (i := 2) rfl Tryd.sizeOf38 rfl (Nat.le_of_ble_eq_true rfl) (by simp [Value.cells, Value.oneCell']) rfl hB hA rfl rfl ?_
    intro w83 hH84 ht85
    replace hK := Tr.trans (Dw := False) hK ht85
    replace hB := Nat.le_trans hB ht85.ex.size
    replace hA := ht85.new
    replace hH : Hp B A66 w83 (obC (b53 0) [.string x59, .int .u8 0, .string ByteArray.empty, .string ByteArray.empty] 38 :: obC b_r_ [.string s61.s, .int .i64 s61.at_, .bool true] 72 :: obC b1 [.string x59, .int .u8 0, .string ByteArray.empty, .string ByteArray.empty] 38 :: L) := hH84
    refine V_to (fun _ _ => rfl) ?_
    obtain rfl := Option.some.inj hm
    have hv86 := loadVar_agg (Hp.part (off := 0) (n := 4) (ds := [.string x59, .int .u8 0, .string ByteArray.empty, .string ByteArray.empty]) hH (i := 2) rfl rfl) Tryd.isAgg38 Tryd.sizeOf38
    replace hH : Hp B A66 w83 (obC b_r_ [.string s61.s, .int .i64 s61.at_, .bool true] 72 :: obC (b53 0) [.string x59, .int .u8 0, .string ByteArray.empty, .string ByteArray.empty] 38 :: obC b1 [.string x59, .int .u8 0, .string ByteArray.empty, .string ByteArray.empty] 38 :: L) := Hp.front hH (i := 1) rfl
    replace hH : Hp B A66 w83 (obC b_r_ [.string s61.s, .int .i64 s61.at_, .bool true] 72 :: obC b1 [.string x59, .int .u8 0, .string ByteArray.empty, .string ByteArray.empty] 38 :: L) := Hp.drop hH (i := 1) rfl
    replace hH : Hp B A66 w83 (obC b_r_ [.string s61.s, .int .i64 s61.at_, .bool true] 72 :: L) := Hp.drop hH (i := 1) rfl
    refine C_ret ?_
    try simp only [↓inBlock_ret, ↓then_ret]
    exact retQ rfl (Res.l1 Tryd.results28 (RL.cell rfl hv86)) ⟨A66, rfl, hH, hK⟩
  · rw [if_neg (nt hc79)] at hm
    refine C_skip_to (fun _ _ => rfl) ?_
    refine C_seq ?_
    refine C_seq ?_
    refine C_region_q (Dw := False) Tryd_mixed (by kernel_rfl) ?_
    refine VQ_y (fun w' hw' => Y_move rfl) rfl rfl rfl ?_
    refine VQ_y (fun w' hw' => Y_nilCheck rfl) rfl rfl rfl ?_
    refine VQ_y (fun w' hw' => Y_fieldAddrC (off2 := 0) Tryd.underlying72 rfl Tryd.sizeOf9 (by decide) rfl rfl) rfl rfl rfl ?_
    refine VQ_y (fun w' hw' => Y_load ((World.cell?_of_block (hw'.block _ (World.block_lt_of_cell? _ _ (Hp.cell (j := 0) hH (i := 1) rfl rfl)))).trans (Hp.cell (j := 0) hH (i := 1) rfl rfl)) Tryd.isAgg9 rfl) rfl rfl rfl ?_
    refine VQ_y (fun w' hw' => Y_move rfl) rfl rfl rfl ?_
    refine VQ_y (fun w' hw' => Y_nilCheck rfl) rfl rfl rfl ?_
    refine VQ_y (fun w' hw' => Y_fieldAddrC (off2 := 1) Tryd.underlying72 rfl Tryd.sizeOf3 (by decide) rfl rfl) rfl rfl rfl ?_
    refine VQ_y (fun w' hw' => Y_load ((World.cell?_of_block (hw'.block _ (World.block_lt_of_cell? _ _ (Hp.cell (j := 1) hH (i := 1) rfl rfl)))).trans (Hp.cell (j := 1) hH (i := 1) rfl rfl)) Tryd.isAgg3 rfl) rfl rfl rfl ?_
    obtain ⟨x87, hx87, hm⟩ := Option.bind_eq_some_iff.1 hm
    refine VQ_y (fun w' hw' => Y_indexS hx87 Tryd.underlying9 rfl rfl) rfl rfl rfl ?_
    refine VQ_to (fun _ _ => rfl) (fun w88 hk89 => ?_)
    have ht90 := Kp.tr (Dw := False) hk89 hA hB
    replace hH := Hp.kp (Dw := False) hH hk89
    replace hK := Tr.trans (Dw := False) hK ht90
    replace hB := Nat.le_trans hB ht90.ex.size
    replace hA := ht90.new
    obtain ⟨s92, ho91, hm⟩ := Option.bind_eq_some_iff.1 hm
    refine C_cutG (ι := (Nat → Prop)) (fun (A97 : (Nat → Prop)) => [(0, .pointer (some ⟨b_r_, 0, none⟩)), (2, .pointer (some ⟨b1, 0, none⟩)), (4, .pointer (some ⟨(b53 0), 0, none⟩))]) (fun (A97 : (Nat → Prop)) => fun w' => Hp B A97 w' (obC (b53 0) [.string s92.1.name, .int .u8 (s92.1.kind.toNat : Int), .string s92.1.one, .string s92.1.two] 38 :: obC b_r_ [.string s92.2.s, .int .i64 s92.2.at_, .bool s92.2.wrong] 72 :: obC b1 [.string ByteArray.empty, .int .u8 0, .string ByteArray.empty, .string ByteArray.empty] 38 :: L) ∧ Tr False B A66 w88 A97 w') ?_ ?_
    · have hr93 : Tr False B A66 w88 A66 w88 := Tr.refl (Dw := False) hA
      refine C_block ?_
      refine C_seq ?_
      refine C_region ?_
      refine V_y (Y_eql rfl rfl) rfl rfl rfl ?_
      refine V_y (Y_assign rfl) rfl rfl rfl ?_
      refine V_to (fun _ _ => rfl) ?_
      obtain ⟨s100, ho99, ho91⟩ := Option.bind_eq_some_iff.1 ho91
      refine C_cutG (ι := (Nat → Prop)) (fun (A105 : (Nat → Prop)) => [(0, .pointer (some ⟨b_r_, 0, none⟩)), (2, .pointer (some ⟨b1, 0, none⟩)), (4, .pointer (some ⟨(b53 0), 0, none⟩))]) (fun (A105 : (Nat → Prop)) => fun w' => Hp B A105 w' (obC (b53 0) [.string s100.1.name, .int .u8 (s100.1.kind.toNat : Int), .string s100.1.one, .string s100.1.two] 38 :: obC b_r_ [.string s100.2.s, .int .i64 s100.2.at_, .bool s100.2.wrong] 72 :: obC b1 [.string ByteArray.empty, .int .u8 0, .string ByteArray.empty, .string ByteArray.empty] 38 :: L) ∧ Tr False B A66 w88 A105 w') ?_ ?_
      · have hr101 : Tr False B A66 w88 A66 w88 := Tr.refl (Dw := False) hA
        refine C_cond rfl (fun hc107 => ?_) (fun hc107 => ?_)
        · rw [if_pos hc107] at ho99
          refine C_seq ?_
          refine C_region ?_
          refine V_y (Y_fieldAddrC (off2 := 1) Tryd.underlying38 rfl Tryd.sizeOf5 (by decide) rfl rfl) rfl rfl rfl ?_
          refine V_storeC (Dw := False) (off := 1) (ds := [.string x59, .int .u8 124, .string ByteArray.empty, .string ByteArray.empty]) hH (i := 0) rfl Tryd.sizeOf5 rfl (Nat.le_of_ble_eq_true rfl) (by simp [Value.cells, Value.oneCell']) rfl hB hA rfl rfl ?_
          intro w108 hH109 ht110
          replace hK := Tr.trans (Dw := False) hK ht110
          replace hr93 := Tr.trans (Dw := False) hr93 ht110
          replace hr101 := Tr.trans (Dw := False) hr101 ht110
          replace hB := Nat.le_trans hB ht110.ex.size
          replace hA := ht110.new
          replace hH : Hp B A66 w108 (obC (b53 0) [.string x59, .int .u8 124, .string ByteArray.empty, .string ByteArray.empty] 38 :: obC b_r_ [.string s61.s, .int .i64 s61.at_, .bool s61.wrong] 72 :: obC b1 [.string ByteArray.empty, .int .u8 0, .string ByteArray.empty, .string ByteArray.empty] 38 :: L) := hH109
          refine V_to (fun _ _ => rfl) ?_
          refine C_seq ?_
          refine C_region ?_
          refine V_y (Y_move rfl) rfl rfl rfl ?_
          refine V_y (Y_nilCheck rfl) rfl rfl rfl ?_
          refine V_y (Y_fieldAddrC (off2 := 1) Tryd.underlying72 rfl Tryd.sizeOf3 (by decide) rfl rfl) rfl rfl rfl ?_
          refine V_y (Y_load (Hp.cell (j := 1) hH (i := 1) rfl rfl) Tryd.isAgg3 rfl) rfl rfl rfl ?_
          refine V_y (Y_addI rfl rfl) rfl rfl rfl ?_
          refine V_y (Y_nilCheck rfl) rfl rfl rfl ?_
          refine V_y (Y_fieldAddrC (off2 := 1) Tryd.underlying72 rfl Tryd.sizeOf3 (by decide) rfl rfl) rfl rfl rfl ?_
          refine V_storeC (Dw := False) (off := 1) (ds := [.string s61.s, .int .i64 (w64 (s61.at_ + 1)), .bool s61.wrong]) hH (i := 1) rfl Tryd.sizeOf3 rfl (Nat.le_of_ble_eq_true rfl) (by simp [Value.cells, Value.oneCell']) rfl hB hA rfl rfl ?_
          intro w111 hH112 ht113
          replace hK := Tr.trans (Dw := False) hK ht113
          replace hr93 := Tr.trans (Dw := False) hr93 ht113
          replace hr101 := Tr.trans (Dw := False) hr101 ht113
          replace hB := Nat.le_trans hB ht113.ex.size
          replace hA := ht113.new
          replace hH : Hp B A66 w111 (obC (b53 0) [.string x59, .int .u8 124, .string ByteArray.empty, .string ByteArray.empty] 38 :: obC b_r_ [.string s61.s, .int .i64 (w64 (s61.at_ + 1)), .bool s61.wrong] 72 :: obC b1 [.string ByteArray.empty, .int .u8 0, .string ByteArray.empty, .string ByteArray.empty] 38 :: L) := hH112
          refine V_to (fun _ _ => rfl) ?_
          refine C_region ?_
          refine V_y (Y_move rfl) rfl rfl rfl ?_
          replace hH : Hp B A66 w111 (obC b_r_ [.string s61.s, .int .i64 (w64 (s61.at_ + 1)), .bool s61.wrong] 72 :: obC (b53 0) [.string x59, .int .u8 124, .string ByteArray.empty, .string ByteArray.empty] 38 :: obC b1 [.string ByteArray.empty, .int .u8 0, .string ByteArray.empty, .string ByteArray.empty] 38 :: L) := Hp.front hH (i := 1) rfl
          obtain ⟨x114, hx114, ho99⟩ := Option.bind_eq_some_iff.1 ho99
          refine V_call Tryd.call47 rfl rfl rfl rfl (know_templateReader_choice_c w111 hB hA (⟨s61.s, w64 (s61.at_ + 1), s61.wrong⟩ : know_templateReader) b_r_ (⟨#[125]⟩ : ByteArray) hH hx114) ?_
          rintro _ w115 ⟨A116, rfl, hH117, ht118⟩
          replace hK := Tr.trans (Dw := False) hK ht118
          replace hr93 := Tr.trans (Dw := False) hr93 ht118
          replace hr101 := Tr.trans (Dw := False) hr101 ht118
          replace hB := Nat.le_trans hB ht118.ex.size
          replace hA := ht118.new
          replace hH : Hp B A116 w115 (obC b_r_ [.string x114.2.s, .int .i64 x114.2.at_, .bool x114.2.wrong] 72 :: obC (b53 0) [.string x59, .int .u8 124, .string ByteArray.empty, .string ByteArray.empty] 38 :: obC b1 [.string ByteArray.empty, .int .u8 0, .string ByteArray.empty, .string ByteArray.empty] 38 :: L) := hH117
          refine V_y (Y_fieldAddrC (off2 := 2) Tryd.underlying38 rfl Tryd.sizeOf9 (by decide) rfl rfl) rfl rfl rfl ?_
          refine V_storeC (Dw := False) (off := 2) (ds := [.string x59, .int .u8 124, .string x114.1, .string ByteArray.empty]) hH (i := 1) rfl Tryd.sizeOf9 rfl (Nat.le_of_ble_eq_true rfl) (by simp [Value.cells, Value.oneCell']) rfl hB hA rfl rfl ?_
          intro w119 hH120 ht121
          replace hK := Tr.trans (Dw := False) hK ht121
          replace hr93 := Tr.trans (Dw := False) hr93 ht121
          replace hr101 := Tr.trans (Dw := False) hr101 ht121
          replace hB := Nat.le_trans hB ht121.ex.size
          replace hA := ht121.new
          replace hH : Hp B A116 w119 (obC b_r_ [.string x114.2.s, .int .i64 x114.2.at_, .bool x114.2.wrong] 72 :: obC (b53 0) [.string x59, .int .u8 124, .string x114.1, .string ByteArray.empty] 38 :: obC b1 [.string ByteArray.empty, .int .u8 0, .string ByteArray.empty, .string ByteArray.empty] 38 :: L) := hH120
          obtain rfl := Option.some.inj ho99
          refine V_end (fun a ha122 => ?_)
          replace hH : Hp B A116 w119 (obC b1 [.string ByteArray.empty, .int .u8 0, .string ByteArray.empty, .string ByteArray.empty] 38 :: obC b_r_ [.string x114.2.s, .int .i64 x114.2.at_, .bool x114.2.wrong] 72 :: obC (b53 0) [.string x59, .int .u8 124, .string x114.1, .string ByteArray.empty] 38 :: L) := Hp.front hH (i := 2) rfl
          replace hH : Hp B A116 w119 (obC b_r_ [.string x114.2.s, .int .i64 x114.2.at_, .bool x114.2.wrong] 72 :: obC b1 [.string ByteArray.empty, .int .u8 0, .string ByteArray.empty, .string ByteArray.empty] 38 :: obC (b53 0) [.string x59, .int .u8 124, .string x114.1, .string ByteArray.empty] 38 :: L) := Hp.front hH (i := 1) rfl
          replace hH : Hp B A116 w119 (obC (b53 0) [.string x59, .int .u8 124, .string x114.1, .string ByteArray.empty] 38 :: obC b_r_ [.string x114.2.s, .int .i64 x114.2.at_, .bool x114.2.wrong] 72 :: obC b1 [.string ByteArray.empty, .int .u8 0, .string ByteArray.empty, .string ByteArray.empty] 38 :: L) := Hp.front hH (i := 2) rfl
          exact ⟨A116, ha122.sub ⟨rfl, rfl, rfl, trivial⟩, ⟨hH, hr101⟩⟩
        · rw [if_neg (nt hc107)] at ho99
          refine C_seq ?_
          refine C_region ?_
          refine V_y (Y_eql rfl rfl) rfl rfl rfl ?_
          refine V_y (Y_assign rfl) rfl rfl rfl ?_
          refine V_to (fun _ _ => rfl) ?_
          obtain ⟨s124, ho123, ho99⟩ := Option.bind_eq_some_iff.1 ho99
          refine C_cutG (ι := (Nat → Prop)) (fun (A129 : (Nat → Prop)) => [(0, .pointer (some ⟨b_r_, 0, none⟩)), (2, .pointer (some ⟨b1, 0, none⟩)), (4, .pointer (some ⟨(b53 0), 0, none⟩))]) (fun (A129 : (Nat → Prop)) => fun w' => Hp B A129 w' (obC (b53 0) [.string s124.1.name, .int .u8 (s124.1.kind.toNat : Int), .string s124.1.one, .string s124.1.two] 38 :: obC b_r_ [.string s124.2.s, .int .i64 s124.2.at_, .bool s124.2.wrong] 72 :: obC b1 [.string ByteArray.empty, .int .u8 0, .string ByteArray.empty, .string ByteArray.empty] 38 :: L) ∧ Tr False B A66 w88 A129 w') ?_ ?_
          · have hr125 : Tr False B A66 w88 A66 w88 := Tr.refl (Dw := False) hA
            refine C_cond rfl (fun hc131 => ?_) (fun hc131 => ?_)
            · rw [if_pos hc131] at ho123
              refine C_seq ?_
              refine C_region ?_
              refine V_y (Y_fieldAddrC (off2 := 1) Tryd.underlying38 rfl Tryd.sizeOf5 (by decide) rfl rfl) rfl rfl rfl ?_
              refine V_storeC (Dw := False) (off := 1) (ds := [.string x59, .int .u8 63, .string ByteArray.empty, .string ByteArray.empty]) hH (i := 0) rfl Tryd.sizeOf5 rfl (Nat.le_of_ble_eq_true rfl) (by simp [Value.cells, Value.oneCell']) rfl hB hA rfl rfl ?_
              intro w132 hH133 ht134
              replace hK := Tr.trans (Dw := False) hK ht134
              replace hr93 := Tr.trans (Dw := False) hr93 ht134
              replace hr101 := Tr.trans (Dw := False) hr101 ht134
              replace hr125 := Tr.trans (Dw := False) hr125 ht134
              replace hB := Nat.le_trans hB ht134.ex.size
              replace hA := ht134.new
              replace hH : Hp B A66 w132 (obC (b53 0) [.string x59, .int .u8 63, .string ByteArray.empty, .string ByteArray.empty] 38 :: obC b_r_ [.string s61.s, .int .i64 s61.at_, .bool s61.wrong] 72 :: obC b1 [.string ByteArray.empty, .int .u8 0, .string ByteArray.empty, .string ByteArray.empty] 38 :: L) := hH133
              refine V_to (fun _ _ => rfl) ?_
              refine C_seq ?_
              refine C_region ?_
              refine V_y (Y_move rfl) rfl rfl rfl ?_
              refine V_y (Y_nilCheck rfl) rfl rfl rfl ?_
              refine V_y (Y_fieldAddrC (off2 := 1) Tryd.underlying72 rfl Tryd.sizeOf3 (by decide) rfl rfl) rfl rfl rfl ?_
              refine V_y (Y_load (Hp.cell (j := 1) hH (i := 1) rfl rfl) Tryd.isAgg3 rfl) rfl rfl rfl ?_
              refine V_y (Y_addI rfl rfl) rfl rfl rfl ?_
              refine V_y (Y_nilCheck rfl) rfl rfl rfl ?_
              refine V_y (Y_fieldAddrC (off2 := 1) Tryd.underlying72 rfl Tryd.sizeOf3 (by decide) rfl rfl) rfl rfl rfl ?_
              refine V_storeC (Dw := False) (off := 1) (ds := [.string s61.s, .int .i64 (w64 (s61.at_ + 1)), .bool s61.wrong]) hH (i := 1) rfl Tryd.sizeOf3 rfl (Nat.le_of_ble_eq_true rfl) (by simp [Value.cells, Value.oneCell']) rfl hB hA rfl rfl ?_
              intro w135 hH136 ht137
              replace hK := Tr.trans (Dw := False) hK ht137
              replace hr93 := Tr.trans (Dw := False) hr93 ht137
              replace hr101 := Tr.trans (Dw := False) hr101 ht137
              replace hr125 := Tr.trans (Dw := False) hr125 ht137
              replace hB := Nat.le_trans hB ht137.ex.size
              replace hA := ht137.new
              replace hH : Hp B A66 w135 (obC (b53 0) [.string x59, .int .u8 63, .string ByteArray.empty, .string ByteArray.empty] 38 :: obC b_r_ [.string s61.s, .int .i64 (w64 (s61.at_ + 1)), .bool s61.wrong] 72 :: obC b1 [.string ByteArray.empty, .int .u8 0, .string ByteArray.empty, .string ByteArray.empty] 38 :: L) := hH136
              refine V_to (fun _ _ => rfl) ?_
              refine C_seq ?_
              refine C_region ?_
              refine V_y (Y_move rfl) rfl rfl rfl ?_
              replace hH : Hp B A66 w135 (obC b_r_ [.string s61.s, .int .i64 (w64 (s61.at_ + 1)), .bool s61.wrong] 72 :: obC (b53 0) [.string x59, .int .u8 63, .string ByteArray.empty, .string ByteArray.empty] 38 :: obC b1 [.string ByteArray.empty, .int .u8 0, .string ByteArray.empty, .string ByteArray.empty] 38 :: L) := Hp.front hH (i := 1) rfl
              obtain ⟨x138, hx138, ho123⟩ := Option.bind_eq_some_iff.1 ho123
              refine V_call Tryd.call47 rfl rfl rfl rfl (know_templateReader_choice_c w135 hB hA (⟨s61.s, w64 (s61.at_ + 1), s61.wrong⟩ : know_templateReader) b_r_ (⟨#[125, 58]⟩ : ByteArray) hH hx138) ?_
              rintro _ w139 ⟨A140, rfl, hH141, ht142⟩
              replace hK := Tr.trans (Dw := False) hK ht142
              replace hr93 := Tr.trans (Dw := False) hr93 ht142
              replace hr101 := Tr.trans (Dw := False) hr101 ht142
              replace hr125 := Tr.trans (Dw := False) hr125 ht142
              replace hB := Nat.le_trans hB ht142.ex.size
              replace hA := ht142.new
              replace hH : Hp B A140 w139 (obC b_r_ [.string x138.2.s, .int .i64 x138.2.at_, .bool x138.2.wrong] 72 :: obC (b53 0) [.string x59, .int .u8 63, .string ByteArray.empty, .string ByteArray.empty] 38 :: obC b1 [.string ByteArray.empty, .int .u8 0, .string ByteArray.empty, .string ByteArray.empty] 38 :: L) := hH141
              refine V_y (Y_fieldAddrC (off2 := 2) Tryd.underlying38 rfl Tryd.sizeOf9 (by decide) rfl rfl) rfl rfl rfl ?_
              refine V_storeC (Dw := False) (off := 2) (ds := [.string x59, .int .u8 63, .string x138.1, .string ByteArray.empty]) hH (i := 1) rfl Tryd.sizeOf9 rfl (Nat.le_of_ble_eq_true rfl) (by simp [Value.cells, Value.oneCell']) rfl hB hA rfl rfl ?_
              intro w143 hH144 ht145
              replace hK := Tr.trans (Dw := False) hK ht145
              replace hr93 := Tr.trans (Dw := False) hr93 ht145
              replace hr101 := Tr.trans (Dw := False) hr101 ht145
              replace hr125 := Tr.trans (Dw := False) hr125 ht145
              replace hB := Nat.le_trans hB ht145.ex.size
              replace hA := ht145.new
              replace hH : Hp B A140 w143 (obC b_r_ [.string x138.2.s, .int .i64 x138.2.at_, .bool x138.2.wrong] 72 :: obC (b53 0) [.string x59, .int .u8 63, .string x138.1, .string ByteArray.empty] 38 :: obC b1 [.string ByteArray.empty, .int .u8 0, .string ByteArray.empty, .string ByteArray.empty] 38 :: L) := hH144
              refine V_to (fun _ _ => rfl) ?_
              refine C_seq ?_
              refine C_region ?_
              refine V_y (Y_move rfl) rfl rfl rfl ?_
              obtain ⟨x146, hx146, ho123⟩ := Option.bind_eq_some_iff.1 ho123
              refine V_call Tryd.call46 rfl rfl rfl rfl (know_templateReader_must_c (Dw := False) w143 hB hA x138.2 b_r_ 58 hH hx146) ?_
              rintro _ w147 ⟨A148, rfl, hH149, ht150⟩
              replace hK := Tr.trans (Dw := False) hK ht150
              replace hr93 := Tr.trans (Dw := False) hr93 ht150
              replace hr101 := Tr.trans (Dw := False) hr101 ht150
              replace hr125 := Tr.trans (Dw := False) hr125 ht150
              replace hB := Nat.le_trans hB ht150.ex.size
              replace hA := ht150.new
              replace hH : Hp B A148 w147 (obC b_r_ [.string x146.s, .int .i64 x146.at_, .bool x146.wrong] 72 :: obC (b53 0) [.string x59, .int .u8 63, .string x138.1, .string ByteArray.empty] 38 :: obC b1 [.string ByteArray.empty, .int .u8 0, .string ByteArray.empty, .string ByteArray.empty] 38 :: L) := hH149
              refine V_to (fun _ _ => rfl) ?_
              refine C_region ?_
              refine V_y (Y_move rfl) rfl rfl rfl ?_
              obtain ⟨x151, hx151, ho123⟩ := Option.bind_eq_some_iff.1 ho123
              refine V_call Tryd.call47 rfl rfl rfl rfl (know_templateReader_choice_c w147 hB hA x146 b_r_ (⟨#[125]⟩ : ByteArray) hH hx151) ?_
              rintro _ w152 ⟨A153, rfl, hH154, ht155⟩
              replace hK := Tr.trans (Dw := False) hK ht155
              replace hr93 := Tr.trans (Dw := False) hr93 ht155
              replace hr101 := Tr.trans (Dw := False) hr101 ht155
              replace hr125 := Tr.trans (Dw := False) hr125 ht155
              replace hB := Nat.le_trans hB ht155.ex.size
              replace hA := ht155.new
              replace hH : Hp B A153 w152 (obC b_r_ [.string x151.2.s, .int .i64 x151.2.at_, .bool x151.2.wrong] 72 :: obC (b53 0) [.string x59, .int .u8 63, .string x138.1, .string ByteArray.empty] 38 :: obC b1 [.string ByteArray.empty, .int .u8 0, .string ByteArray.empty, .string ByteArray.empty] 38 :: L) := hH154
              refine V_y (Y_fieldAddrC (off2 := 3) Tryd.underlying38 rfl Tryd.sizeOf9 (by decide) rfl rfl) rfl rfl rfl ?_
              refine V_storeC (Dw := False) (off := 3) (ds := [.string x59, .int .u8 63, .string x138.1, .string x151.1]) hH (i := 1) rfl Tryd.sizeOf9 rfl (Nat.le_of_ble_eq_true rfl) (by simp [Value.cells, Value.oneCell']) rfl hB hA rfl rfl ?_
              intro w156 hH157 ht158
              replace hK := Tr.trans (Dw := False) hK ht158
              replace hr93 := Tr.trans (Dw := False) hr93 ht158
              replace hr101 := Tr.trans (Dw := False) hr101 ht158
              replace hr125 := Tr.trans (Dw := False) hr125 ht158
              replace hB := Nat.le_trans hB ht158.ex.size
              replace hA := ht158.new
              replace hH : Hp B A153 w156 (obC b_r_ [.string x151.2.s, .int .i64 x151.2.at_, .bool x151.2.wrong] 72 :: obC (b53 0) [.string x59, .int .u8 63, .string x138.1, .string x151.1] 38 :: obC b1 [.string ByteArray.empty, .int .u8 0, .string ByteArray.empty, .string ByteArray.empty] 38 :: L) := hH157
              obtain rfl := Option.some.inj ho123
              refine V_end (fun a ha159 => ?_)
              replace hH : Hp B A153 w156 (obC b1 [.string ByteArray.empty, .int .u8 0, .string ByteArray.empty, .string ByteArray.empty] 38 :: obC b_r_ [.string x151.2.s, .int .i64 x151.2.at_, .bool x151.2.wrong] 72 :: obC (b53 0) [.string x59, .int .u8 63, .string x138.1, .string x151.1] 38 :: L) := Hp.front hH (i := 2) rfl
              replace hH : Hp B A153 w156 (obC b_r_ [.string x151.2.s, .int .i64 x151.2.at_, .bool x151.2.wrong] 72 :: obC b1 [.string ByteArray.empty, .int .u8 0, .string ByteArray.empty, .string ByteArray.empty] 38 :: obC (b53 0) [.string x59, .int .u8 63, .string x138.1, .string x151.1] 38 :: L) := Hp.front hH (i := 1) rfl
              replace hH : Hp B A153 w156 (obC (b53 0) [.string x59, .int .u8 63, .string x138.1, .string x151.1] 38 :: obC b_r_ [.string x151.2.s, .int .i64 x151.2.at_, .bool x151.2.wrong] 72 :: obC b1 [.string ByteArray.empty, .int .u8 0, .string ByteArray.empty, .string ByteArray.empty] 38 :: L) := Hp.front hH (i := 2) rfl
              exact ⟨A153, ha159.sub ⟨rfl, rfl, rfl, trivial⟩, ⟨hH, hr125⟩⟩
            · rw [if_neg (nt hc131)] at ho123
              obtain rfl := Option.some.inj ho123
              refine C_skip (fun a ha160 => ?_)
              exact ⟨A66, ha160.sub ⟨rfl, rfl, rfl, trivial⟩, ⟨hH, hr125⟩⟩
          rintro A129 w126 ⟨hH130, hk127⟩ a ha128
          replace hK := Tr.trans (Dw := False) hK hk127
          replace hr93 := Tr.trans (Dw := False) hr93 hk127
          replace hr101 := Tr.trans (Dw := False) hr101 hk127
          replace hB := Nat.le_trans hB hk127.ex.size
          replace hA := hk127.new
          replace hH : Hp B A129 w126 (obC (b53 0) [.string s124.1.name, .int .u8 (s124.1.kind.toNat : Int), .string s124.1.one, .string s124.1.two] 38 :: obC b_r_ [.string s124.2.s, .int .i64 s124.2.at_, .bool s124.2.wrong] 72 :: obC b1 [.string ByteArray.empty, .int .u8 0, .string ByteArray.empty, .string ByteArray.empty] 38 :: L) := hH130
          obtain rfl := Option.some.inj ho99
          exact ⟨A129, ha128.sub ⟨rfl, rfl, rfl, trivial⟩, ⟨hH, hr101⟩⟩
      rintro A105 w102 ⟨hH106, hk103⟩ a ha104
      replace hK := Tr.trans (Dw := False) hK hk103
      replace hr93 := Tr.trans (Dw := False) hr93 hk103
      replace hB := Nat.le_trans hB hk103.ex.size
      replace hA := hk103.new
      replace hH : Hp B A105 w102 (obC (b53 0) [.string s100.1.name, .int .u8 (s100.1.kind.toNat : Int), .string s100.1.one, .string s100.1.two] 38 :: obC b_r_ [.string s100.2.s, .int .i64 s100.2.at_, .bool s100.2.wrong] 72 :: obC b1 [.string ByteArray.empty, .int .u8 0, .string ByteArray.empty, .string ByteArray.empty] 38 :: L) := hH106
      obtain rfl := Option.some.inj ho91
      exact ⟨A105, ha104.sub ⟨rfl, rfl, rfl, trivial⟩, ⟨hH, hr93⟩⟩
    rintro A97 w94 ⟨hH98, hk95⟩ a ha96
    replace hK := Tr.trans (Dw := False) hK hk95
    replace hB := Nat.le_trans hB hk95.ex.size
    replace hA := hk95.new
    replace hH : Hp B A97 w94 (obC (b53 0) [.string s92.1.name, .int .u8 (s92.1.kind.toNat : Int), .string s92.1.one, .string s92.1.two] 38 :: obC b_r_ [.string s92.2.s, .int .i64 s92.2.at_, .bool s92.2.wrong] 72 :: obC b1 [.string ByteArray.empty, .int .u8 0, .string ByteArray.empty, .string ByteArray.empty] 38 :: L) := hH98
    refine C_at (n := ⟨140, [], none⟩) (fun _ _ => rfl) ?_ ha96
    refine C_seq ?_
    refine C_region ?_
    refine V_y (Y_move rfl) rfl rfl rfl ?_
    replace hH : Hp B A97 w94 (obC b_r_ [.string s92.2.s, .int .i64 s92.2.at_, .bool s92.2.wrong] 72 :: obC (b53 0) [.string s92.1.name, .int .u8 (s92.1.kind.toNat : Int), .string s92.1.one, .string s92.1.two] 38 :: obC b1 [.string ByteArray.empty, .int .u8 0, .string ByteArray.empty, .string ByteArray.empty] 38 :: L) := Hp.front hH (i := 1) rfl
    obtain ⟨x163, hx163, hm⟩ := Option.bind_eq_some_iff.1 hm
    refine V_call Tryd.call46 rfl rfl rfl rfl (know_templateReader_must_c (Dw := False) w94 hB hA s92.2 b_r_ 125 hH hx163) ?_
    rintro _ w164 ⟨A165, rfl, hH166, ht167⟩
    replace hK := Tr.trans (Dw := False) hK ht167
    replace hB := Nat.le_trans hB ht167.ex.size
    replace hA := ht167.new
    replace hH : Hp B A165 w164 (obC b_r_ [.string x163.s, .int .i64 x163.at_, .bool x163.wrong] 72 :: obC (b53 0) [.string s92.1.name, .int .u8 (s92.1.kind.toNat : Int), .string s92.1.one, .string s92.1.two] 38 :: obC b1 [.string ByteArray.empty, .int .u8 0, .string ByteArray.empty, .string ByteArray.empty] 38 :: L) := hH166
    refine V_to (fun _ _ => rfl) ?_
    refine C_seq ?_
    refine C_region ?_
    refine V_y (Y_move rfl) rfl rfl rfl ?_
    obtain ⟨x168, hx168, hm⟩ := Option.bind_eq_some_iff.1 hm
    refine V_call Tryd.call46 rfl rfl rfl rfl (know_templateReader_must_c (Dw := False) w164 hB hA x163 b_r_ 125 hH hx168) ?_
    rintro _ w169 ⟨A170, rfl, hH171, ht172⟩
    replace hK := Tr.trans (Dw := False) hK ht172
    replace hB := Nat.le_trans hB ht172.ex.size
    replace hA := ht172.new
    replace hH : Hp B A170 w169 (obC b_r_ [.string x168.s, .int .i64 x168.at_, .bool x168.wrong] 72 :: obC (b53 0) [.string s92.1.name, .int .u8 (s92.1.kind.toNat : Int), .string s92.1.one, .string s92.1.two] 38 :: obC b1 [.string ByteArray.empty, .int .u8 0, .string ByteArray.empty, .string ByteArray.empty] 38 :: L) := hH171
    refine V_to (fun _ _ => rfl) ?_
    refine C_seq ?_
    refine C_region ?_
    refine V_y (Y_loadA (Hp.part (off := 0) (n := 4) (ds := [.string s92.1.name, .int .u8 (s92.1.kind.toNat : Int), .string s92.1.one, .string s92.1.two]) hH (i := 1) rfl rfl) Tryd.isAgg38 Tryd.sizeOf38 rfl) rfl rfl rfl ?_
    refine V_storeC (Dw := False) (off := 0) (ds := [.string s92.1.name, .int .u8 (s92.1.kind.toNat : Int), .string s92.1.one, .string s92.1.two]) hH (i := 2) rfl Tryd.sizeOf38 rfl (Nat.le_of_ble_eq_true rfl) (by simp [Value.cells, Value.oneCell']) rfl hB hA rfl rfl ?_
    intro w173 hH174 ht175
    replace hK := Tr.trans (Dw := False) hK ht175
    replace hB := Nat.le_trans hB ht175.ex.size
    replace hA := ht175.new
    replace hH : Hp B A170 w173 (obC b_r_ [.string x168.s, .int .i64 x168.at_, .bool x168.wrong] 72 :: obC (b53 0) [.string s92.1.name, .int .u8 (s92.1.kind.toNat : Int), .string s92.1.one, .string s92.1.two] 38 :: obC b1 [.string s92.1.name, .int .u8 (s92.1.kind.toNat : Int), .string s92.1.one, .string s92.1.two] 38 :: L) := hH174
    refine V_to (fun _ _ => rfl) ?_
    obtain rfl := Option.some.inj hm
    have hv176 := loadVar_agg (Hp.part (off := 0) (n := 4) (ds := [.string s92.1.name, .int .u8 (s92.1.kind.toNat : Int), .string s92.1.one, .string s92.1.two]) hH (i := 2) rfl rfl) Tryd.isAgg38 Tryd.sizeOf38
    replace hH : Hp B A170 w173 (obC b_r_ [.string x168.s, .int .i64 x168.at_, .bool x168.wrong] 72 :: obC b1 [.string s92.1.name, .int .u8 (s92.1.kind.toNat : Int), .string s92.1.one, .string s92.1.two] 38 :: L) := Hp.drop hH (i := 1) rfl
    replace hH : Hp B A170 w173 (obC b_r_ [.string x168.s, .int .i64 x168.at_, .bool x168.wrong] 72 :: L) := Hp.drop hH (i := 1) rfl
    refine C_ret ?_
    try simp only [↓inBlock_ret, ↓then_ret]
    exact retQ rfl (Res.l1 Tryd.results28 (RL.cell rfl hv176)) ⟨A170, rfl, hH, hK⟩

set_option maxRecDepth 4000 in
set_option maxHeartbeats 4000000 in
theorem know_parse_c (w : World) {A : Nat → Prop} (hA : ∀ b, w.heap.size ≤ b → A b) (s : ByteArray) {r : ((List know_field) × Int × Bool)} (hm : know_parse s = some r) : Ret Tryd.prog 15 #[.string s] w fun v w' => ∃ s0, v = .tuple #[s0, .int .i64 r.2.1, .bool r.2.2] ∧ Ownd 38 w w' s0 r.1 ∧ Kp False w w' := by
  unfold know_parse at hm
  refine enter Tryd.func15 rfl Tryd.ntmps15 rfl ?_
  have hA0 := hA
  have hB := Nat.le_refl w.heap.size
  have hK : Tr False w.heap.size A w A w := Tr.refl (Dw := False) hA
  have hH : Hp w.heap.size A w [] := Hp.nil
  refine C_seq ?_
  refine C_region ?_
  refine V_y (Y_assign rfl) rfl rfl rfl ?_
  refine V_y (Y_assign rfl) rfl rfl rfl ?_
  refine V_y (Y_assign rfl) rfl rfl rfl ?_
  refine V_to (fun _ _ => rfl) ?_
  refine C_seq ?_
  refine C_region ?_
  refine V_y (Y_move rfl) rfl rfl rfl ?_
  refine V_y (Y_build Tryd.underlying72 Tryd.zeroValue72 (Tryd_places72 _ Tryd.underlying72) rfl (by with_unfolding_all rfl)) rfl rfl rfl ?_
  refine V_boxH (Dw := False) (B := w.heap.size) hH rfl hB hA rfl ?_
  intro b1 w2 A3 hH4 ht5
  replace hK := Tr.trans (Dw := False) hK ht5
  replace hB := Nat.le_trans hB ht5.ex.size
  replace hA := ht5.new
  replace hH : Hp w.heap.size A3 w2 (obC b1 [.string s, .int .i64 0, .bool false] 72 :: []) := hH4
  refine V_y (Y_assign rfl) rfl rfl rfl ?_
  refine V_to (fun _ _ => rfl) ?_
  refine C_seq ?_
  refine C_region ?_
  refine V_y (Y_assign rfl) rfl rfl rfl ?_
  refine V_to (fun _ _ => rfl) ?_
  replace hH : Hp w.heap.size A3 w2 (obS (α := know_field) 38 (.slice none 0 0) ([] : (List know_field)) :: obC b1 [.string s, .int .i64 0, .bool false] 72 :: []) := Hp.addNil (α := know_field) (e := 38) hH
  obtain ⟨o6, ho6, hm⟩ := Option.bind_eq_some_iff.1 hm
  refine C_cutG (ι := (((List know_field) × know_templateReader) × Value × (Nat → Prop))) (fun ⟨s7, v13, A15⟩ => []) (fun ⟨s7, v13, A15⟩ => fun w' => o6 = .fin s7 ∧ Hp w.heap.size A15 w' (obS (α := know_field) 38 v13 s7.1 :: obC b1 [.string s7.2.s, .int .i64 s7.2.at_, .bool s7.2.wrong] 72 :: []) ∧ Tr False w.heap.size A3 w2 A15 w') ?_ ?_
  · refine C_block ?_
    refine C_while ho6 (fun s17 a w' => ∃ i : (Value × (Nat → Prop)), Has ⟨56, [], none⟩ a ([(0, .string s), (5, .pointer (some ⟨b1, 0, none⟩)), (6, i.1)]) ∧ Hp w.heap.size i.2 w' (obS (α := know_field) 38 i.1 s17.1 :: obC b1 [.string s17.2.s, .int .i64 s17.2.at_, .bool s17.2.wrong] 72 :: []) ∧ Tr False w.heap.size A3 w2 i.2 w') (fun a ha => ⟨(.slice none 0 0, A3), ha.sub ⟨rfl, rfl, rfl, trivial⟩, ⟨hH, Tr.refl (Dw := False) hA⟩⟩) ?_
    rintro K s17 a w18 ⟨⟨v19, A21⟩, ha87, hH22, hr8⟩ K29
    refine C_of ?_ ha87
    replace hK := Tr.trans (Dw := False) hK hr8
    replace hB := Nat.le_trans hB hr8.ex.size
    replace hA := hr8.new
    replace hH : Hp w.heap.size A21 w18 (obS (α := know_field) 38 v19 s17.1 :: obC b1 [.string s17.2.s, .int .i64 s17.2.at_, .bool s17.2.wrong] 72 :: []) := hH22
    obtain ⟨x23, h24, h25⟩ := K29
    refine C_block ?_
    refine C_seq ?_
    refine C_seq ?_
    refine C_region ?_
    refine V_y (Y_move rfl) rfl rfl rfl ?_
    replace hH : Hp w.heap.size A21 w18 (obC b1 [.string s17.2.s, .int .i64 s17.2.at_, .bool s17.2.wrong] 72 :: obS (α := know_field) 38 v19 s17.1 :: []) := Hp.front hH (i := 1) rfl
    obtain ⟨x30, hx30, h24⟩ := Option.bind_eq_some_iff.1 h24
    refine V_call Tryd.call27 rfl rfl rfl rfl (know_templateReader_text_c w18 hB hA s17.2 b1 hH hx30) ?_
    rintro _ w31 ⟨A32, rfl, hH33, ht34⟩
    replace hK := Tr.trans (Dw := False) hK ht34
    replace hr8 := Tr.trans (Dw := False) hr8 ht34
    replace hB := Nat.le_trans hB ht34.ex.size
    replace hA := ht34.new
    replace hH : Hp w.heap.size A32 w31 (obC b1 [.string x30.2.s, .int .i64 x30.2.at_, .bool x30.2.wrong] 72 :: obS (α := know_field) 38 v19 s17.1 :: []) := hH33
    refine V_y (Y_assign rfl) rfl rfl rfl ?_
    refine V_to (fun _ _ => rfl) ?_
    refine C_seq ?_
    refine C_region ?_
    refine V_y (Y_move rfl) rfl rfl rfl ?_
    refine V_y (Y_sneq rfl rfl) rfl rfl rfl ?_
    refine V_to (fun _ _ => rfl) ?_
    obtain ⟨s36, ho35, h24⟩ := Option.bind_eq_some_iff.1 h24
    refine C_cutG (ι := (Value × (Nat → Prop))) (fun ⟨v38, A43⟩ => [(0, .string s), (5, .pointer (some ⟨b1, 0, none⟩)), (6, v38)]) (fun ⟨v38, A43⟩ => fun w' => Hp w.heap.size A43 w' (obC b1 [.string x30.2.s, .int .i64 x30.2.at_, .bool x30.2.wrong] 72 :: obS (α := know_field) 38 v38 s36 :: []) ∧ Tr False w.heap.size A32 w31 A43 w') ?_ ?_
    · have hr37 : Tr False w.heap.size A32 w31 A32 w31 := Tr.refl (Dw := False) hA
      refine C_cond rfl (fun hc45 => ?_) (fun hc45 => ?_)
      · rw [if_pos hc45] at ho35
        refine C_region ?_
        refine V_y (Y_move rfl) rfl rfl rfl ?_
        refine V_y (Y_move rfl) rfl rfl rfl ?_
        refine V_y (Y_build Tryd.underlying38 Tryd.zeroValue38 (Tryd_places38 _ Tryd.underlying38) rfl (by with_unfolding_all rfl)) rfl rfl rfl ?_
        refine V_buildSlice (Dw := False) (cells := #[.string ByteArray.empty, .int .u8 0, .string x30.1, .string ByteArray.empty]) (l := ([(⟨ByteArray.empty, 0, x30.1, ByteArray.empty⟩ : know_field)] : List know_field)) (len := 1) Tryd.underlying27 Tryd.sizeOf38 Tryd.zeroValue38 rfl (by kernel_rfl) (show (1 * 4 : Nat) ≠ 0 by decide) (show (1 * 4 : Nat) ≤ 2 ^ 24 by decide) hA ⟨[.string ByteArray.empty, .int .u8 0, .string x30.1, .string ByteArray.empty], _, rfl, ⟨[.string ByteArray.empty], _, rfl, rfl, ⟨[.int .u8 0], _, rfl, rfl, ⟨[.string x30.1], _, rfl, rfl, rfl⟩⟩⟩, rfl⟩ rfl rfl ?_
        intro v46 w47 hk49 h48
        have ht50 := Kp.tr (Dw := False) hk49 hA hB
        replace hH := Hp.kp (Dw := False) hH hk49
        replace hK := Tr.trans (Dw := False) hK ht50
        replace hr8 := Tr.trans (Dw := False) hr8 ht50
        replace hr37 := Tr.trans (Dw := False) hr37 ht50
        replace hB := Nat.le_trans hB ht50.ex.size
        replace hA := ht50.new
        obtain ⟨x51, hx51, ho35⟩ := Option.bind_eq_some_iff.1 ho35
        refine V_appendH (Dw := False) (e := 38) (v := v19) (l := s17.1) (ti := Tryd.t38) (bytes := 56) (lim := 2513169434916) hH (i := 1) rfl h48 hx51 Tryd.underlying27 Tryd_info38 rfl rfl rfl rfl (by decide) (by decide) (by decide) hB hA rfl rfl rfl ?_
        intro v52 w53 A54 hH55 ht56
        replace h48 := Sl.tr (Dw := False) h48 ht56
        replace hK := Tr.trans (Dw := False) hK ht56
        replace hr8 := Tr.trans (Dw := False) hr8 ht56
        replace hr37 := Tr.trans (Dw := False) hr37 ht56
        replace hB := Nat.le_trans hB ht56.ex.size
        replace hA := ht56.new
        replace hH : Hp w.heap.size A54 w53 (obC b1 [.string x30.2.s, .int .i64 x30.2.at_, .bool x30.2.wrong] 72 :: obS (α := know_field) 38 v52 x51 :: []) := hH55
        refine V_y (Y_assign rfl) rfl rfl rfl ?_
        obtain rfl := Option.some.inj ho35
        refine V_end (fun a ha57 => ?_)
        exact ⟨(v52, A54), ha57.sub ⟨rfl, rfl, rfl, trivial⟩, ⟨hH, hr37⟩⟩
      · rw [if_neg (nt hc45)] at ho35
        obtain rfl := Option.some.inj ho35
        refine C_skip (fun a ha58 => ?_)
        exact ⟨(v19, A32), ha58.sub ⟨rfl, rfl, rfl, trivial⟩, ⟨hH, hr37⟩⟩
    rintro ⟨v38, A43⟩ w40 ⟨hH44, hk41⟩ a ha42
    replace hK := Tr.trans (Dw := False) hK hk41
    replace hr8 := Tr.trans (Dw := False) hr8 hk41
    replace hB := Nat.le_trans hB hk41.ex.size
    replace hA := hk41.new
    replace hH : Hp w.heap.size A43 w40 (obC b1 [.string x30.2.s, .int .i64 x30.2.at_, .bool x30.2.wrong] 72 :: obS (α := know_field) 38 v38 s36 :: []) := hH44
    refine C_at (n := ⟨56, [], none⟩) (fun _ _ => rfl) ?_ ha42
    refine C_seq ?_
    refine C_seq ?_
    refine C_region ?_
    refine V_y (Y_move rfl) rfl rfl rfl ?_
    refine V_y (Y_nilCheck rfl) rfl rfl rfl ?_
    refine V_y (Y_fieldAddrC (off2 := 2) Tryd.underlying72 rfl Tryd.sizeOf4 (by decide) rfl rfl) rfl rfl rfl ?_
    refine V_y (Y_load (Hp.cell (j := 2) hH (i := 0) rfl rfl) Tryd.isAgg4 rfl) rfl rfl rfl ?_
    refine V_y (Y_move rfl) rfl rfl rfl ?_
    refine V_cut 8 (fun _ : Unit => [(0, .string s), (5, .pointer (some ⟨b1, 0, none⟩)), (6, v38), (32, .bool (x30.2.wrong || (x30.2.at_ == (s.size : Int))))]) (fun _ w' => w40 = w') ?_ ?_
    · simp only [List.take, List.drop]
      rcases Bool.eq_false_or_eq_true (x30.2.wrong) with hc59 | hc59
      · refine V_gn rfl rfl rfl hc59 rfl rfl rfl ?_
        refine V_gn rfl rfl rfl hc59 rfl rfl rfl ?_
        refine V_gn rfl rfl rfl hc59 rfl rfl rfl ?_
        refine V_gn rfl rfl rfl hc59 rfl rfl rfl ?_
        refine V_gn rfl rfl rfl hc59 rfl rfl rfl ?_
        refine V_gn rfl rfl rfl hc59 rfl rfl rfl ?_
        refine V_gn rfl rfl rfl hc59 rfl rfl rfl ?_
        refine V_y (Y_pick_te rfl hc59 rfl) rfl rfl rfl ?_
        exact V_end fun a ha => ⟨(), ha.sub ⟨rfl, rfl, rfl, (by rw [hc59]; rfl), trivial⟩, rfl⟩
      · refine V_ge rfl rfl rfl hc59 ?_
        refine V_y (Y_move rfl) rfl rfl rfl ?_
        refine V_ge rfl rfl rfl hc59 ?_
        refine V_y (Y_nilCheck rfl) rfl rfl rfl ?_
        refine V_ge rfl rfl rfl hc59 ?_
        refine V_y (Y_fieldAddrC (off2 := 1) Tryd.underlying72 rfl Tryd.sizeOf3 (by decide) rfl rfl) rfl rfl rfl ?_
        refine V_ge rfl rfl rfl hc59 ?_
        refine V_y (Y_load (Hp.cell (j := 1) hH (i := 0) rfl rfl) Tryd.isAgg3 rfl) rfl rfl rfl ?_
        refine V_ge rfl rfl rfl hc59 ?_
        refine V_y (Y_move rfl) rfl rfl rfl ?_
        refine V_ge rfl rfl rfl hc59 ?_
        refine V_y (Y_lenStr rfl Tryd.underlying9 rfl) rfl rfl rfl ?_
        refine V_ge rfl rfl rfl hc59 ?_
        refine V_y (Y_eql rfl rfl) rfl rfl rfl ?_
        refine V_y (Y_pick_fe rfl hc59 rfl) rfl rfl rfl ?_
        exact V_end fun a ha => ⟨(), ha.sub ⟨rfl, rfl, rfl, (by rw [hc59]; rfl), trivial⟩, rfl⟩
    simp only [List.take, List.drop]
    rintro _ _ rfl
    refine V_to (fun _ _ => rfl) ?_
    refine C_cond rfl (fun hc61 => ?_) (fun hc61 => ?_)
    · rw [if_pos hc61] at h24
      refine C_seq ?_
      refine C_region_q (Dw := False) Tryd_mixed (by kernel_rfl) ?_
      refine VQ_y (fun w' hw' => Y_move rfl) rfl rfl rfl ?_
      refine VQ_y (fun w' hw' => Y_move rfl) rfl rfl rfl ?_
      refine VQ_y (fun w' hw' => Y_nilCheck rfl) rfl rfl rfl ?_
      refine VQ_y (fun w' hw' => Y_fieldAddrC (off2 := 1) Tryd.underlying72 rfl Tryd.sizeOf3 (by decide) rfl rfl) rfl rfl rfl ?_
      refine VQ_y (fun w' hw' => Y_load ((World.cell?_of_block (hw'.block _ (World.block_lt_of_cell? _ _ (Hp.cell (j := 1) hH (i := 0) rfl rfl)))).trans (Hp.cell (j := 1) hH (i := 0) rfl rfl)) Tryd.isAgg3 rfl) rfl rfl rfl ?_
      refine VQ_y (fun w' hw' => Y_move rfl) rfl rfl rfl ?_
      refine VQ_y (fun w' hw' => Y_nilCheck rfl) rfl rfl rfl ?_
      refine VQ_y (fun w' hw' => Y_fieldAddrC (off2 := 2) Tryd.underlying72 rfl Tryd.sizeOf4 (by decide) rfl rfl) rfl rfl rfl ?_
      refine VQ_y (fun w' hw' => Y_load ((World.cell?_of_block (hw'.block _ (World.block_lt_of_cell? _ _ (Hp.cell (j := 2) hH (i := 0) rfl rfl)))).trans (Hp.cell (j := 2) hH (i := 0) rfl rfl)) Tryd.isAgg4 rfl) rfl rfl rfl ?_
      refine VQ_y (fun w' hw' => Y_not rfl) rfl rfl rfl ?_
      refine VQ_y (fun w' hw' => Y_assign rfl) rfl rfl rfl ?_
      refine VQ_y (fun w' hw' => Y_assign rfl) rfl rfl rfl ?_
      refine VQ_y (fun w' hw' => Y_assign rfl) rfl rfl rfl ?_
      refine VQ_to (fun _ _ => rfl) (fun w62 hk63 => ?_)
      have ht64 := Kp.tr (Dw := False) hk63 hA hB
      replace hH := Hp.kp (Dw := False) hH hk63
      replace hK := Tr.trans (Dw := False) hK ht64
      replace hr8 := Tr.trans (Dw := False) hr8 ht64
      replace hB := Nat.le_trans hB ht64.ex.size
      replace hA := ht64.new
      obtain rfl := Option.some.inj h24
      obtain rfl := (h25 : Lp.rt _ = _)
      rw [Lp.andThen_rt] at hm
      obtain rfl := Option.some.inj hm
      refine C_ret ?_
      try simp only [↓inBlock_ret, ↓then_ret]
      exact retQ rfl (Res.three Tryd.results15 rfl rfl rfl) ⟨v38, rfl, (Hp.ownd hH (i := 1) rfl), hK.kp⟩
    · rw [if_neg (nt hc61)] at h24
      refine C_skip_to (fun _ _ => rfl) ?_
      refine C_seq ?_
      refine C_region ?_
      refine V_y (Y_move rfl) rfl rfl rfl ?_
      refine V_y (Y_move rfl) rfl rfl rfl ?_
      obtain ⟨x65, hx65, h24⟩ := Option.bind_eq_some_iff.1 h24
      refine V_call Tryd.call28 rfl rfl rfl rfl (know_templateReader_field_c w40 hB hA x30.2 b1 hH hx65) ?_
      rintro _ w66 ⟨A67, rfl, hH68, ht69⟩
      replace hK := Tr.trans (Dw := False) hK ht69
      replace hr8 := Tr.trans (Dw := False) hr8 ht69
      replace hB := Nat.le_trans hB ht69.ex.size
      replace hA := ht69.new
      replace hH : Hp w.heap.size A67 w66 (obC b1 [.string x65.2.s, .int .i64 x65.2.at_, .bool x65.2.wrong] 72 :: obS (α := know_field) 38 v38 s36 :: []) := hH68
      refine V_buildSlice (Dw := False) (cells := #[.string x65.1.name, .int .u8 (x65.1.kind.toNat : Int), .string x65.1.one, .string x65.1.two]) (l := ([x65.1] : List know_field)) (len := 1) Tryd.underlying27 Tryd.sizeOf38 Tryd.zeroValue38 rfl (by generalize ((x65.1.kind.toNat : Int) : Int) = z74; kernel_rfl) (show (1 * 4 : Nat) ≠ 0 by decide) (show (1 * 4 : Nat) ≤ 2 ^ 24 by decide) hA ⟨[.string x65.1.name, .int .u8 (x65.1.kind.toNat : Int), .string x65.1.one, .string x65.1.two], _, rfl, ⟨[.string x65.1.name], _, rfl, rfl, ⟨[.int .u8 (x65.1.kind.toNat : Int)], _, rfl, rfl, ⟨[.string x65.1.one], _, rfl, rfl, rfl⟩⟩⟩, rfl⟩ rfl rfl ?_
      intro v70 w71 hk73 h72
      have ht75 := Kp.tr (Dw := False) hk73 hA hB
      replace hH := Hp.kp (Dw := False) hH hk73
      replace hK := Tr.trans (Dw := False) hK ht75
      replace hr8 := Tr.trans (Dw := False) hr8 ht75
      replace hB := Nat.le_trans hB ht75.ex.size
      replace hA := ht75.new
      obtain ⟨x76, hx76, h24⟩ := Option.bind_eq_some_iff.1 h24
      refine V_appendH (Dw := False) (e := 38) (v := v38) (l := s36) (ti := Tryd.t38) (bytes := 56) (lim := 2513169434916) hH (i := 1) rfl h72 hx76 Tryd.underlying27 Tryd_info38 rfl rfl rfl rfl (by decide) (by decide) (by decide) hB hA rfl rfl rfl ?_
      intro v77 w78 A79 hH80 ht81
      replace h72 := Sl.tr (Dw := False) h72 ht81
      replace hK := Tr.trans (Dw := False) hK ht81
      replace hr8 := Tr.trans (Dw := False) hr8 ht81
      replace hB := Nat.le_trans hB ht81.ex.size
      replace hA := ht81.new
      replace hH : Hp w.heap.size A79 w78 (obC b1 [.string x65.2.s, .int .i64 x65.2.at_, .bool x65.2.wrong] 72 :: obS (α := know_field) 38 v77 x76 :: []) := hH80
      refine V_y (Y_assign rfl) rfl rfl rfl ?_
      refine V_to (fun _ _ => rfl) ?_
      refine C_seq ?_
      refine C_region ?_
      refine V_y (Y_move rfl) rfl rfl rfl ?_
      refine V_y (Y_nilCheck rfl) rfl rfl rfl ?_
      refine V_y (Y_fieldAddrC (off2 := 2) Tryd.underlying72 rfl Tryd.sizeOf4 (by decide) rfl rfl) rfl rfl rfl ?_
      refine V_y (Y_load (Hp.cell (j := 2) hH (i := 0) rfl rfl) Tryd.isAgg4 rfl) rfl rfl rfl ?_
      refine V_to (fun _ _ => rfl) ?_
      refine C_cond rfl (fun hc82 => ?_) (fun hc82 => ?_)
      · rw [if_pos hc82] at h24
        refine C_seq ?_
        refine C_region_q (Dw := False) Tryd_mixed (by kernel_rfl) ?_
        refine VQ_y (fun w' hw' => Y_move rfl) rfl rfl rfl ?_
        refine VQ_y (fun w' hw' => Y_nilCheck rfl) rfl rfl rfl ?_
        refine VQ_y (fun w' hw' => Y_fieldAddrC (off2 := 1) Tryd.underlying72 rfl Tryd.sizeOf3 (by decide) rfl rfl) rfl rfl rfl ?_
        refine VQ_y (fun w' hw' => Y_load ((World.cell?_of_block (hw'.block _ (World.block_lt_of_cell? _ _ (Hp.cell (j := 1) hH (i := 0) rfl rfl)))).trans (Hp.cell (j := 1) hH (i := 0) rfl rfl)) Tryd.isAgg3 rfl) rfl rfl rfl ?_
        refine VQ_y (fun w' hw' => Y_assign rfl) rfl rfl rfl ?_
        refine VQ_y (fun w' hw' => Y_assign rfl) rfl rfl rfl ?_
        refine VQ_y (fun w' hw' => Y_assign rfl) rfl rfl rfl ?_
        refine VQ_to (fun _ _ => rfl) (fun w83 hk84 => ?_)
        have ht85 := Kp.tr (Dw := False) hk84 hA hB
        replace hH := Hp.kp (Dw := False) hH hk84
        replace hK := Tr.trans (Dw := False) hK ht85
        replace hr8 := Tr.trans (Dw := False) hr8 ht85
        replace hB := Nat.le_trans hB ht85.ex.size
        replace hA := ht85.new
        obtain rfl := Option.some.inj h24
        obtain rfl := (h25 : Lp.rt _ = _)
        rw [Lp.andThen_rt] at hm
        obtain rfl := Option.some.inj hm
        replace hH : Hp w.heap.size A79 w83 (obS (α := know_field) 38 (.slice none 0 0) ([] : (List know_field)) :: obC b1 [.string x65.2.s, .int .i64 x65.2.at_, .bool x65.2.wrong] 72 :: obS (α := know_field) 38 v77 x76 :: []) := Hp.addNil (α := know_field) (e := 38) hH
        refine C_ret ?_
        try simp only [↓inBlock_ret, ↓then_ret]
        exact retQ rfl (Res.three Tryd.results15 rfl rfl rfl) ⟨.slice none 0 0, rfl, (Hp.ownd hH (i := 0) rfl), hK.kp⟩
      · rw [if_neg (nt hc82)] at h24
        obtain rfl := Option.some.inj h24
        refine C_skip (fun a ha86 => ?_)
        replace hH : Hp w.heap.size A79 w78 (obS (α := know_field) 38 v77 x76 :: obC b1 [.string x65.2.s, .int .i64 x65.2.at_, .bool x65.2.wrong] 72 :: []) := Hp.front hH (i := 1) rfl
        exact ⟨(x76, x65.2), h25, ⟨(v77, A79), ha86.sub ⟨rfl, rfl, rfl, trivial⟩, ⟨hH, hr8⟩⟩⟩
  rintro ⟨s7, v13, A15⟩ w10 ⟨rfl, hH16, hk11⟩ a ha12
  rw [Lp.andThen_fin] at hm
  replace hK := Tr.trans (Dw := False) hK hk11
  replace hB := Nat.le_trans hB hk11.ex.size
  replace hA := hk11.new
  replace hH : Hp w.heap.size A15 w10 (obS (α := know_field) 38 v13 s7.1 :: obC b1 [.string s7.2.s, .int .i64 s7.2.at_, .bool s7.2.wrong] 72 :: []) := hH16
  cases hm

set_option maxRecDepth 4000 in
set_option maxHeartbeats 4000000 in
theorem know_names_c (w : World) {A : Nat → Prop} (hA : ∀ b, w.heap.size ≤ b → A b) (l : (List know_field)) (v_l : Value) (h_l : Sl A w v_l l) {r : (List ByteArray)} (hm : know_names l = some r) : Ret Tryd.prog 16 #[v_l] w fun v w' => ∃ s0, v = s0 ∧ Ownd 9 w w' s0 r ∧ Kp Dw w w' := by
  unfold know_names at hm
  refine enter Tryd.func16 rfl Tryd.ntmps16 rfl ?_
  have hA0 := hA
  have hB := Nat.le_refl w.heap.size
  have hK : Tr Dw w.heap.size A w A w := Tr.refl (Dw := Dw) hA
  have hH : Hp w.heap.size A w [] := Hp.nil
  refine C_seq ?_
  refine C_region ?_
  refine V_y (Y_assign rfl) rfl rfl rfl ?_
  refine V_to (fun _ _ => rfl) ?_
  refine C_seq ?_
  refine C_region ?_
  refine V_y (Y_assign rfl) rfl rfl rfl ?_
  refine V_to (fun _ _ => rfl) ?_
  refine C_seq ?_
  refine C_seq ?_
  refine C_region ?_
  refine V_y (Y_move rfl) rfl rfl rfl ?_
  refine V_y (Y_lenSl h_l rfl Tryd.underlying27 rfl) rfl rfl rfl ?_
  refine V_y (Y_move rfl) rfl rfl rfl ?_
  refine V_to (fun _ _ => rfl) ?_
  replace hH : Hp w.heap.size A w (obS (α := ByteArray) 9 (.slice none 0 0) ([] : (List ByteArray)) :: []) := Hp.addNil (α := ByteArray) (e := 9) hH
  have hn27 := Sl.le h_l
  obtain ⟨o3, ho3, hm⟩ := Option.bind_eq_some_iff.1 hm
  refine C_cutG (ι := ((List ByteArray) × Value × (Nat → Prop))) (fun ⟨s4, v10, A12⟩ => [(3, v10)]) (fun ⟨s4, v10, A12⟩ => fun w' => o3 = .fin s4 ∧ Hp w.heap.size A12 w' (obS (α := ByteArray) 9 v10 s4 :: []) ∧ Tr Dw w.heap.size A w A12 w') ?_ ?_
  · refine C_block ?_
    refine C_range ho3 (fun k6 s14 a w' => ∃ i : (Value × (Nat → Prop)), Has ⟨22, [], none⟩ a ([(3, i.1), (6, v_l), (7, .int .i64 (l.length : Int)), (8, .int .i64 (k6 : Int))]) ∧ Hp w.heap.size i.2 w' (obS (α := ByteArray) 9 i.1 s14 :: []) ∧ Tr Dw w.heap.size A w i.2 w') (fun a ha => ⟨(.slice none 0 0, A), ha.sub ⟨rfl, rfl, rfl, rfl, trivial⟩, ⟨hH, Tr.refl (Dw := Dw) hA⟩⟩) ?_
    rintro K k6 s14 a w15 ⟨⟨v16, A18⟩, ha81, hH19, hr5⟩ hle23 K26 h25
    refine C_of ?_ ha81
    replace h_l := Sl.tr (Dw := Dw) h_l hr5
    replace hK := Tr.trans (Dw := Dw) hK hr5
    replace hB := Nat.le_trans hB hr5.ex.size
    replace hA := hr5.new
    replace hH : Hp w.heap.size A18 w15 (obS (α := ByteArray) 9 v16 s14 :: []) := hH19
    refine C_seq (C_region (V_y (Y_lss rfl rfl) rfl rfl rfl (V_to (fun _ _ => rfl) ?_)))
    refine C_seq ?_
    refine C_cond rfl (fun hc28 => ?_) (fun hc28 => ?_)
    · have hlt24 := lt_of_dec hc28
      obtain ⟨x20, h21, h22⟩ := K26 hlt24
      refine C_skip_to (fun _ _ => rfl) ?_
      refine C_seq ?_
      obtain ⟨s30, ho29, h21⟩ := Option.bind_eq_some_iff.1 h21
      refine C_cutG (ι := (Value × (Nat → Prop))) (fun ⟨v32, A37⟩ => [(3, v32), (6, v_l), (7, .int .i64 (l.length : Int)), (8, .int .i64 (k6 : Int))]) (fun ⟨v32, A37⟩ => fun w' => Hp w.heap.size A37 w' (obS (α := ByteArray) 9 v32 s30 :: []) ∧ Tr Dw w.heap.size A18 w15 A37 w') ?_ ?_
      · have hr31 : Tr Dw w.heap.size A18 w15 A18 w15 := Tr.refl (Dw := Dw) hA
        refine C_block ?_
        refine C_seq ?_
        refine C_region ?_
        obtain ⟨x39, hx39, ho29⟩ := Option.bind_eq_some_iff.1 ho29
        refine V_indexAddr h_l hx39 Tryd.underlying27 Tryd.sizeOf38 rfl rfl rfl ?_
        intro b40 o41 h42
        obtain ⟨h43, _⟩ := El_know_field h42
        refine V_y (Y_loadA h43 Tryd.isAgg38 Tryd.sizeOf38 rfl) rfl rfl rfl ?_
        refine V_alloc Tryd.zeroValue38 rfl ?_
        intro b44 w45 h46
        refine V_storeNew h46 Tryd.sizeOf38 rfl rfl rfl rfl (by exact (List.forall_mem_cons.2 ⟨rfl, (List.forall_mem_cons.2 ⟨rfl, (List.forall_mem_cons.2 ⟨rfl, (List.forall_mem_cons.2 ⟨rfl, (fun _ h => nomatch h)⟩)⟩)⟩)⟩)) ?_
        intro w47 h48
        have hk50 := h48.kp (Dw := Dw)
        have h49 : El (α := know_field) A18 w47 b44 0 x39 := h48.el hA ⟨[.string x39.name], _, rfl, rfl, ⟨[.int .u8 (x39.kind.toNat : Int)], _, rfl, rfl, ⟨[.string x39.one], _, rfl, rfl, rfl⟩⟩⟩
        have ht51 := Kp.tr (Dw := Dw) hk50 hA hB
        replace hH := Hp.kp (Dw := Dw) hH hk50
        replace h_l := Sl.tr (Dw := Dw) h_l ht51
        replace h42 := El.tr (Dw := Dw) h42 ht51
        replace hK := Tr.trans (Dw := Dw) hK ht51
        replace hr5 := Tr.trans (Dw := Dw) hr5 ht51
        replace hr31 := Tr.trans (Dw := Dw) hr31 ht51
        replace hB := Nat.le_trans hB ht51.ex.size
        replace hA := ht51.new
        refine V_to (fun _ _ => rfl) ?_
        refine C_seq ?_
        refine C_region ?_
        have h52 := El_know_field_0 h49
        refine V_y (Y_fieldAddr Tryd.underlying38 rfl Tryd.sizeOf9 (by decide) rfl) rfl rfl rfl ?_
        refine V_y (Y_load (El.str h52) Tryd.isAgg9 rfl) rfl rfl rfl ?_
        refine V_y (Y_sneq rfl rfl) rfl rfl rfl ?_
        refine V_to (fun _ _ => rfl) ?_
        obtain ⟨s54, ho53, ho29⟩ := Option.bind_eq_some_iff.1 ho29
        refine C_cutG (ι := (Value × (Nat → Prop))) (fun ⟨v56, A61⟩ => [(3, v56), (6, v_l), (7, .int .i64 (l.length : Int)), (8, .int .i64 (k6 : Int))]) (fun ⟨v56, A61⟩ => fun w' => Hp w.heap.size A61 w' (obS (α := ByteArray) 9 v56 s54 :: []) ∧ Tr Dw w.heap.size A18 w47 A61 w') ?_ ?_
        · have hr55 : Tr Dw w.heap.size A18 w47 A18 w47 := Tr.refl (Dw := Dw) hA
          refine C_cond rfl (fun hc63 => ?_) (fun hc63 => ?_)
          · rw [if_pos hc63] at ho53
            refine C_region ?_
            refine V_y (Y_move rfl) rfl rfl rfl ?_
            have h64 := El_know_field_0 h49
            refine V_y (Y_fieldAddr Tryd.underlying38 rfl Tryd.sizeOf9 (by decide) rfl) rfl rfl rfl ?_
            refine V_y (Y_load (El.str h64) Tryd.isAgg9 rfl) rfl rfl rfl ?_
            refine V_buildSlice (Dw := Dw) (l := ([x39.name] : List ByteArray)) (len := 1) Tryd.underlying52 Tryd.sizeOf9 Tryd.zeroValue9 rfl (by with_unfolding_all rfl) (show (1 * 1 : Nat) ≠ 0 by decide) (show (1 * 1 : Nat) ≤ 2 ^ 24 by decide) hA ⟨[.string x39.name], _, rfl, rfl, rfl⟩ rfl rfl ?_
            intro v65 w66 hk68 h67
            have ht69 := Kp.tr (Dw := Dw) hk68 hA hB
            replace hH := Hp.kp (Dw := Dw) hH hk68
            replace h_l := Sl.tr (Dw := Dw) h_l ht69
            replace h49 := El.tr (Dw := Dw) h49 ht69
            replace h64 := El.tr (Dw := Dw) h64 ht69
            replace hK := Tr.trans (Dw := Dw) hK ht69
            replace hr5 := Tr.trans (Dw := Dw) hr5 ht69
            replace hr31 := Tr.trans (Dw := Dw) hr31 ht69
            replace hr55 := Tr.trans (Dw := Dw) hr55 ht69
            replace hB := Nat.le_trans hB ht69.ex.size
            replace hA := ht69.new
            obtain ⟨x70, hx70, ho53⟩ := Option.bind_eq_some_iff.1 ho53
            refine V_appendH (Dw := Dw) (e := 9) (v := v16) (l := s14) (ti := Tryd.t9) (bytes := 16) (lim := 8796093022208) hH (i := 0) rfl h67 hx70 Tryd.underlying52 Tryd_info9 rfl rfl rfl rfl (by decide) (by decide) (by decide) hB hA rfl rfl rfl ?_
            intro v71 w72 A73 hH74 ht75
            replace h_l := Sl.tr (Dw := Dw) h_l ht75
            replace h49 := El.tr (Dw := Dw) h49 ht75
            replace h64 := El.tr (Dw := Dw) h64 ht75
            replace h67 := Sl.tr (Dw := Dw) h67 ht75
            replace hK := Tr.trans (Dw := Dw) hK ht75
            replace hr5 := Tr.trans (Dw := Dw) hr5 ht75
            replace hr31 := Tr.trans (Dw := Dw) hr31 ht75
            replace hr55 := Tr.trans (Dw := Dw) hr55 ht75
            replace hB := Nat.le_trans hB ht75.ex.size
            replace hA := ht75.new
            replace hH : Hp w.heap.size A73 w72 (obS (α := ByteArray) 9 v71 x70 :: []) := hH74
            refine V_y (Y_assign rfl) rfl rfl rfl ?_
            obtain rfl := Option.some.inj ho53
            refine V_end (fun a ha76 => ?_)
            exact ⟨(v71, A73), ha76.sub ⟨rfl, rfl, rfl, rfl, trivial⟩, ⟨hH, hr55⟩⟩
          · rw [if_neg (nt hc63)] at ho53
            obtain rfl := Option.some.inj ho53
            refine C_skip (fun a ha77 => ?_)
            exact ⟨(v16, A18), ha77.sub ⟨rfl, rfl, rfl, rfl, trivial⟩, ⟨hH, hr55⟩⟩
        rintro ⟨v56, A61⟩ w58 ⟨hH62, hk59⟩ a ha60
        replace h_l := Sl.tr (Dw := Dw) h_l hk59
        replace hK := Tr.trans (Dw := Dw) hK hk59
        replace hr5 := Tr.trans (Dw := Dw) hr5 hk59
        replace hr31 := Tr.trans (Dw := Dw) hr31 hk59
        replace hB := Nat.le_trans hB hk59.ex.size
        replace hA := hk59.new
        replace hH : Hp w.heap.size A61 w58 (obS (α := ByteArray) 9 v56 s54 :: []) := hH62
        obtain rfl := Option.some.inj ho29
        exact ⟨(v56, A61), ha60.sub ⟨rfl, rfl, rfl, rfl, trivial⟩, ⟨hH, hr31⟩⟩
      rintro ⟨v32, A37⟩ w34 ⟨hH38, hk35⟩ a ha36
      replace h_l := Sl.tr (Dw := Dw) h_l hk35
      replace hK := Tr.trans (Dw := Dw) hK hk35
      replace hr5 := Tr.trans (Dw := Dw) hr5 hk35
      replace hB := Nat.le_trans hB hk35.ex.size
      replace hA := hk35.new
      replace hH : Hp w.heap.size A37 w34 (obS (α := ByteArray) 9 v32 s30 :: []) := hH38
      refine C_at (n := ⟨22, [], none⟩) (fun _ _ => rfl) ?_ ha36
      refine C_region ?_
      refine V_y (Y_addI rfl rfl) rfl rfl rfl ?_
      refine V_y (Y_move rfl) rfl rfl rfl ?_
      obtain rfl := Option.some.inj h21
      refine V_end (fun a ha79 => ?_)
      exact ⟨s30, hlt24, h22, ⟨(v32, A37), ha79.sub ⟨rfl, rfl, rfl, (congrArg (fun z => some (Value.int .i64 z)) (w64_succ hlt24 hn27)), trivial⟩, ⟨hH, hr5⟩⟩⟩
    · refine C_exit (fun a ha80 => ?_)
      exact ⟨(s14, v16, A18), ha80.sub ⟨rfl, trivial⟩, ⟨(h25 (eq_of_dec hle23 hc28)).symm, hH, hr5⟩⟩
  rintro ⟨s4, v10, A12⟩ w7 ⟨rfl, hH13, hk8⟩ a ha9
  rw [Lp.andThen_fin] at hm
  replace hK := Tr.trans (Dw := Dw) hK hk8
  replace hB := Nat.le_trans hB hk8.ex.size
  replace hA := hk8.new
  replace hH : Hp w.heap.size A12 w7 (obS (α := ByteArray) 9 v10 s4 :: []) := hH13
  refine C_at (n := ⟨22, [], none⟩) (fun _ _ => rfl) ?_ ha9
  refine C_seq ?_
  refine C_region ?_
  refine V_y (Y_move rfl) rfl rfl rfl ?_
  refine V_y (Y_assign rfl) rfl rfl rfl ?_
  refine V_to (fun _ _ => rfl) ?_
  obtain rfl := Option.some.inj hm
  refine C_ret ?_
  try simp only [↓inBlock_ret, ↓then_ret]
  exact retQ rfl (Res.one Tryd.results16 rfl) ⟨v10, rfl, (Hp.ownd hH (i := 0) rfl), hK.kp⟩

set_option maxRecDepth 4000 in
set_option maxHeartbeats 4000000 in
theorem know_template_c (w : World) {A : Nat → Prop} (hA : ∀ b, w.heap.size ≤ b → A b) (s : ByteArray) {r : ((List know_field) × Int × Int)} (hm : know_template s = some r) : Ret Tryd.prog 6 #[.string s] w fun v w' => ∃ s0, v = .tuple #[s0, .int .i64 r.2.1, .int .i64 r.2.2] ∧ Sl A w' s0 r.1 ∧ Kp False w w' := by
  unfold know_template at hm
  refine enter Tryd.func6 rfl Tryd.ntmps6 rfl ?_
  have hA0 := hA
  have hB := Nat.le_refl w.heap.size
  have hK : Tr False w.heap.size A w A w := Tr.refl (Dw := False) hA
  have hH : Hp w.heap.size A w [] := Hp.nil
  refine C_seq ?_
  refine C_region ?_
  refine V_y (Y_assign rfl) rfl rfl rfl ?_
  refine V_y (Y_assign rfl) rfl rfl rfl ?_
  refine V_y (Y_assign rfl) rfl rfl rfl ?_
  refine V_to (fun _ _ => rfl) ?_
  refine C_seq ?_
  refine C_seq ?_
  refine C_region ?_
  refine V_y (Y_move rfl) rfl rfl rfl ?_
  refine V_y (Y_lenStr rfl Tryd.underlying9 rfl) rfl rfl rfl ?_
  refine V_y (Y_gtr rfl rfl) rfl rfl rfl ?_
  refine V_to (fun _ _ => rfl) ?_
  refine C_cond rfl (fun hc1 => ?_) (fun hc1 => ?_)
  · rw [if_pos hc1] at hm
    refine C_seq ?_
    refine C_region ?_
    refine V_y (Y_assign rfl) rfl rfl rfl ?_
    refine V_y (Y_assign rfl) rfl rfl rfl ?_
    refine V_y (Y_assign rfl) rfl rfl rfl ?_
    refine V_to (fun _ _ => rfl) ?_
    obtain rfl := Option.some.inj hm
    refine C_ret ?_
    try simp only [↓inBlock_ret, ↓then_ret]
    exact retQ rfl (Res.three Tryd.results6 rfl rfl rfl) ⟨.slice none 0 0, rfl, Sl.nil, hK.kp⟩
  · rw [if_neg (nt hc1)] at hm
    refine C_skip_to (fun _ _ => rfl) ?_
    refine C_seq ?_
    refine C_seq ?_
    refine C_region ?_
    refine V_y (Y_move rfl) rfl rfl rfl ?_
    obtain ⟨x2, hx2, hm⟩ := Option.bind_eq_some_iff.1 hm
    refine V_call Tryd.call14 rfl rfl rfl rfl (know_plain_c w s true hx2) ?_
    rintro _ _ ⟨rfl, rfl⟩
    refine V_y (Y_not rfl) rfl rfl rfl ?_
    refine V_to (fun _ _ => rfl) ?_
    refine C_cond rfl (fun hc3 => ?_) (fun hc3 => ?_)
    · rw [if_pos hc3] at hm
      refine C_seq ?_
      refine C_region ?_
      refine V_y (Y_assign rfl) rfl rfl rfl ?_
      refine V_y (Y_assign rfl) rfl rfl rfl ?_
      refine V_y (Y_assign rfl) rfl rfl rfl ?_
      refine V_to (fun _ _ => rfl) ?_
      obtain rfl := Option.some.inj hm
      refine C_ret ?_
      try simp only [↓inBlock_ret, ↓then_ret]
      exact retQ rfl (Res.three Tryd.results6 rfl rfl rfl) ⟨.slice none 0 0, rfl, Sl.nil, hK.kp⟩
    · rw [if_neg (nt hc3)] at hm
      refine C_skip_to (fun _ _ => rfl) ?_
      refine C_seq ?_
      refine C_region ?_
      refine V_y (Y_move rfl) rfl rfl rfl ?_
      obtain ⟨x4, hx4, hm⟩ := Option.bind_eq_some_iff.1 hm
      refine V_call Tryd.call15 rfl rfl rfl rfl (know_parse_c w hA s hx4) ?_
      rintro _ w7 ⟨v5, rfl, h6, hk8⟩
      obtain ⟨A9, ht10, hH11⟩ := Hp.addOwnd (Dw := False) hH hB hA hk8 h6
      replace hK := Tr.trans (Dw := False) hK ht10
      replace hB := Nat.le_trans hB ht10.ex.size
      replace hA := ht10.new
      replace hH : Hp w.heap.size A9 w7 (obS (α := know_field) 38 v5 x4.1 :: []) := hH11
      refine V_y (Y_move rfl) rfl rfl rfl ?_
      refine V_y (Y_extract rfl rfl) rfl rfl rfl ?_
      refine V_y (Y_extract rfl rfl) rfl rfl rfl ?_
      refine V_y (Y_extract rfl rfl) rfl rfl rfl ?_
      refine V_y (Y_assign rfl) rfl rfl rfl ?_
      refine V_y (Y_assign rfl) rfl rfl rfl ?_
      refine V_y (Y_assign rfl) rfl rfl rfl ?_
      refine V_to (fun _ _ => rfl) ?_
      refine C_seq ?_
      refine C_seq ?_
      refine C_region ?_
      refine V_y (Y_move rfl) rfl rfl rfl ?_
      refine V_y (Y_not rfl) rfl rfl rfl ?_
      refine V_to (fun _ _ => rfl) ?_
      refine C_cond rfl (fun hc12 => ?_) (fun hc12 => ?_)
      · rw [if_pos hc12] at hm
        refine C_seq ?_
        refine C_region ?_
        refine V_y (Y_move rfl) rfl rfl rfl ?_
        refine V_y (Y_assign rfl) rfl rfl rfl ?_
        refine V_y (Y_assign rfl) rfl rfl rfl ?_
        refine V_y (Y_assign rfl) rfl rfl rfl ?_
        refine V_to (fun _ _ => rfl) ?_
        obtain rfl := Option.some.inj hm
        refine C_ret ?_
        try simp only [↓inBlock_ret, ↓then_ret]
        exact retQ rfl (Res.three Tryd.results6 rfl rfl rfl) ⟨.slice none 0 0, rfl, Sl.nil, hK.kp⟩
      · rw [if_neg (nt hc12)] at hm
        refine C_skip_to (fun _ _ => rfl) ?_
        refine C_seq ?_
        refine C_seq ?_
        refine C_region ?_
        refine V_y (Y_move rfl) rfl rfl rfl ?_
        obtain ⟨x13, hx13, hm⟩ := Option.bind_eq_some_iff.1 hm
        refine V_call Tryd.call16 rfl rfl rfl rfl (know_names_c (Dw := False) w7 (A := fun _ => True) (fun _ _ => trivial) x4.1 v5 (Hp.any (α := know_field) (e := 38) (v := v5) (l := x4.1) hH (i := 0) rfl) hx13) ?_
        rintro v14 w17 ⟨_, rfl, h15, hk18⟩
        obtain ⟨A19, ht20, hH21⟩ := Hp.addOwnd (Dw := False) hH hB hA hk18 h15
        replace hK := Tr.trans (Dw := False) hK ht20
        replace hB := Nat.le_trans hB ht20.ex.size
        replace hA := ht20.new
        replace hH : Hp w.heap.size A19 w17 (obS (α := ByteArray) 9 v14 x13 :: obS (α := know_field) 38 v5 x4.1 :: []) := hH21
        refine V_y (Y_lenSl (Hp.any (α := ByteArray) (e := 9) (v := v14) (l := x13) hH (i := 0) rfl) rfl Tryd.underlying52 rfl) rfl rfl rfl ?_
        refine V_y (Y_gtr rfl rfl) rfl rfl rfl ?_
        refine V_to (fun _ _ => rfl) ?_
        refine C_cond rfl (fun hc22 => ?_) (fun hc22 => ?_)
        · rw [if_pos hc22] at hm
          refine C_seq ?_
          refine C_region ?_
          refine V_y (Y_assign rfl) rfl rfl rfl ?_
          refine V_y (Y_assign rfl) rfl rfl rfl ?_
          refine V_y (Y_assign rfl) rfl rfl rfl ?_
          refine V_to (fun _ _ => rfl) ?_
          obtain rfl := Option.some.inj hm
          refine C_ret ?_
          try simp only [↓inBlock_ret, ↓then_ret]
          exact retQ rfl (Res.three Tryd.results6 rfl rfl rfl) ⟨.slice none 0 0, rfl, Sl.nil, hK.kp⟩
        · rw [if_neg (nt hc22)] at hm
          refine C_skip_to (fun _ _ => rfl) ?_
          refine C_seq ?_
          refine C_region ?_
          refine V_y (Y_move rfl) rfl rfl rfl ?_
          refine V_y (Y_assign rfl) rfl rfl rfl ?_
          refine V_y (Y_assign rfl) rfl rfl rfl ?_
          refine V_y (Y_assign rfl) rfl rfl rfl ?_
          refine V_to (fun _ _ => rfl) ?_
          obtain rfl := Option.some.inj hm
          obtain ⟨A23, ht24, h25, hH26⟩ := Hp.freeze (Dw := False) (α := know_field) (v := v5) (l := x4.1) hH (i := 1) rfl hA
          replace hK := Tr.trans (Dw := False) hK ht24
          replace hB := Nat.le_trans hB ht24.ex.size
          replace hA := ht24.new
          replace hH : Hp w.heap.size A23 w17 (obS (α := ByteArray) 9 v14 x13 :: []) := hH26
          refine C_ret ?_
          try simp only [↓inBlock_ret, ↓then_ret]
          exact retQ rfl (Res.three Tryd.results6 rfl rfl rfl) ⟨v5, rfl, (Sl.out (Dw := False) h25 hA0 hK), hK.kp⟩

set_option maxRecDepth 4000 in
set_option maxHeartbeats 4000000 in
theorem know_within_c (w : World) (n : Int) (low : Int) (high : Int) : Ret Tryd.prog 17 #[.int .i64 n, .int .i64 low, .int .i64 high] w fun v w' => v = .bool (know_within n low high) ∧ w = w' := by
  generalize hm : know_within n low high = r
  unfold know_within at hm
  refine enter Tryd.func17 rfl Tryd.ntmps17 rfl ?_
  refine C_seq ?_
  refine C_region ?_
  refine V_y (Y_assign rfl) rfl rfl rfl ?_
  refine V_to (fun _ _ => rfl) ?_
  refine C_seq ?_
  refine C_region ?_
  refine V_y (Y_move rfl) rfl rfl rfl ?_
  refine V_y (Y_move rfl) rfl rfl rfl ?_
  refine V_y (Y_geq rfl rfl) rfl rfl rfl ?_
  refine V_y (Y_move rfl) rfl rfl rfl ?_
  refine V_cut 4 (fun _ : Unit => [(14, .bool ((decide (low ≤ n)) && (decide (n ≤ high))))]) (fun _ w' => w = w') ?_ ?_
  · simp only [List.take, List.drop]
    rcases Bool.eq_false_or_eq_true (decide (low ≤ n)) with hc1 | hc1
    · refine V_ge rfl rfl rfl hc1 ?_
      refine V_y (Y_move rfl) rfl rfl rfl ?_
      refine V_ge rfl rfl rfl hc1 ?_
      refine V_y (Y_move rfl) rfl rfl rfl ?_
      refine V_ge rfl rfl rfl hc1 ?_
      refine V_y (Y_leq rfl rfl) rfl rfl rfl ?_
      refine V_y (Y_pick_te rfl hc1 rfl) rfl rfl rfl ?_
      exact V_end fun a ha => ⟨(), ha.sub ⟨(by rw [hc1]; rfl), trivial⟩, rfl⟩
    · refine V_gn rfl rfl rfl hc1 rfl rfl rfl ?_
      refine V_gn rfl rfl rfl hc1 rfl rfl rfl ?_
      refine V_gn rfl rfl rfl hc1 rfl rfl rfl ?_
      refine V_y (Y_pick_fe rfl hc1 rfl) rfl rfl rfl ?_
      exact V_end fun a ha => ⟨(), ha.sub ⟨(by rw [hc1]; rfl), trivial⟩, rfl⟩
  simp only [List.take, List.drop]
  rintro _ _ rfl
  refine V_y (Y_assign rfl) rfl rfl rfl ?_
  refine V_to (fun _ _ => rfl) ?_
  obtain rfl := hm
  refine C_ret ?_
  try simp only [↓inBlock_ret, ↓then_ret]
  exact retQ rfl (Res.one Tryd.results17 rfl) ⟨rfl, rfl⟩

set_option maxRecDepth 4000 in
set_option maxHeartbeats 4000000 in
theorem know_checkPairs_1_c (w : World) (c : Int) : Ret Tryd.prog 19 #[.int .i32 c] w fun v w' => v = .bool (know_checkPairs_1 c) ∧ w = w' := by
  generalize hm : know_checkPairs_1 c = r
  unfold know_checkPairs_1 at hm
  refine enter Tryd.func19 rfl Tryd.ntmps19 rfl ?_
  refine C_seq ?_
  refine C_region ?_
  refine V_y (Y_assign rfl) rfl rfl rfl ?_
  refine V_to (fun _ _ => rfl) ?_
  refine C_seq ?_
  refine C_region ?_
  refine V_y (Y_move rfl) rfl rfl rfl ?_
  refine V_y (Y_geq rfl rfl) rfl rfl rfl ?_
  refine V_y (Y_move rfl) rfl rfl rfl ?_
  refine V_cut 5 (fun _ : Unit => [(10, .bool ((decide ((128 : Int) ≤ c)) || (!(know_nameByte ((toU8 c).toNat : Int)))))]) (fun _ w' => w = w') ?_ ?_
  · simp only [List.take, List.drop]
    rcases Bool.eq_false_or_eq_true (decide ((128 : Int) ≤ c)) with hc1 | hc1
    · refine V_gn rfl rfl rfl hc1 rfl rfl rfl ?_
      refine V_gn rfl rfl rfl hc1 rfl rfl rfl ?_
      refine V_gn rfl rfl rfl hc1 rfl rfl rfl ?_
      refine V_gn rfl rfl rfl hc1 rfl rfl rfl ?_
      refine V_y (Y_pick_te rfl hc1 rfl) rfl rfl rfl ?_
      exact V_end fun a ha => ⟨(), ha.sub ⟨(by rw [hc1]; rfl), trivial⟩, rfl⟩
    · refine V_ge rfl rfl rfl hc1 ?_
      refine V_y (Y_move rfl) rfl rfl rfl ?_
      refine V_ge rfl rfl rfl hc1 ?_
      refine V_y (Y_convU8 Tryd.underlying21 Tryd.underlying5 rfl) rfl rfl rfl ?_
      refine V_ge rfl rfl rfl hc1 ?_
      refine V_call Tryd.call20 rfl rfl rfl rfl (know_nameByte_c w ((toU8 c).toNat : Int)) ?_
      rintro _ _ ⟨rfl, rfl⟩
      refine V_ge rfl rfl rfl hc1 ?_
      refine V_y (Y_not rfl) rfl rfl rfl ?_
      refine V_y (Y_pick_fe rfl hc1 rfl) rfl rfl rfl ?_
      exact V_end fun a ha => ⟨(), ha.sub ⟨(by rw [hc1]; rfl), trivial⟩, rfl⟩
  simp only [List.take, List.drop]
  rintro _ _ rfl
  refine V_y (Y_assign rfl) rfl rfl rfl ?_
  refine V_to (fun _ _ => rfl) ?_
  obtain rfl := hm
  refine C_ret ?_
  try simp only [↓inBlock_ret, ↓then_ret]
  exact retQ rfl (Res.one Tryd.results19 rfl) ⟨rfl, rfl⟩

set_option maxRecDepth 4000 in
set_option maxHeartbeats 4000000 in
theorem know_checkPairs_c (w : World) {A : Nat → Prop} {B : Nat} (hB : B ≤ w.heap.size) (hA : ∀ b, w.heap.size ≤ b → A b) (l : (List know_Pair)) (v_l : Value) (h_l : Sl A w v_l l) {L : List Ob} (hH : Hp B A w (L)) {r : ((List (ByteArray × ByteArray)) × Int)} (hm : know_checkPairs l = some r) : Ret Tryd.prog 7 #[v_l] w fun v w' => ∃ m0, ∃ A1 : Nat → Prop, v = .tuple #[.map m0, .int .i64 r.2] ∧ Hp B A1 w' (obSMo (κ := ByteArray) (α := ByteArray) m0 r.1 :: L) ∧ Tr False B A w A1 w' := by
  unfold know_checkPairs at hm
  refine enter Tryd.func7 rfl Tryd.ntmps7 rfl ?_
  have hK : Tr False B A w A w := Tr.refl (Dw := False) hA
  refine C_seq ?_
  refine C_region ?_
  refine V_y (Y_assign rfl) rfl rfl rfl ?_
  refine V_y (Y_assign rfl) rfl rfl rfl ?_
  refine V_to (fun _ _ => rfl) ?_
  refine C_seq ?_
  refine C_seq ?_
  refine C_region ?_
  refine V_y (Y_move rfl) rfl rfl rfl ?_
  refine V_y (Y_lenSl h_l rfl Tryd.underlying22 rfl) rfl rfl rfl ?_
  refine V_y (Y_gtr rfl rfl) rfl rfl rfl ?_
  refine V_to (fun _ _ => rfl) ?_
  refine C_cond rfl (fun hc3 => ?_) (fun hc3 => ?_)
  · rw [if_pos hc3] at hm
    refine C_seq ?_
    refine C_region ?_
    refine V_y (Y_assign rfl) rfl rfl rfl ?_
    refine V_y (Y_assign rfl) rfl rfl rfl ?_
    refine V_to (fun _ _ => rfl) ?_
    obtain rfl := Option.some.inj hm
    replace hH : Hp B A w (obSMo (κ := ByteArray) (α := ByteArray) none ([] : (List (ByteArray × ByteArray))) :: L) := Hp.addNM hH
    refine C_ret ?_
    try simp only [↓inBlock_ret, ↓then_ret]
    exact retQ rfl (Res.two Tryd.results7 rfl rfl) ⟨none, A, rfl, hH, hK⟩
  · rw [if_neg (nt hc3)] at hm
    refine C_skip_to (fun _ _ => rfl) ?_
    refine C_seq ?_
    refine C_region ?_
    refine V_makeMapS (Dw := False) (B := B) ByteArray ByteArray hH hB hA rfl ?_
    intro b4 w5 A6 hH7 ht8
    replace h_l := Sl.tr (Dw := False) h_l ht8
    replace hK := Tr.trans (Dw := False) hK ht8
    replace hB := Nat.le_trans hB ht8.ex.size
    replace hA := ht8.new
    replace hH : Hp B A6 w5 (obSM (κ := ByteArray) (α := ByteArray) b4 ([] : List (ByteArray × ByteArray)) :: L) := hH7
    refine V_y (Y_assign rfl) rfl rfl rfl ?_
    refine V_to (fun _ _ => rfl) ?_
    refine C_seq ?_
    refine C_seq ?_
    refine C_region ?_
    refine V_y (Y_move rfl) rfl rfl rfl ?_
    refine V_y (Y_lenSl h_l rfl Tryd.underlying22 rfl) rfl rfl rfl ?_
    refine V_y (Y_move rfl) rfl rfl rfl ?_
    refine V_to (fun _ _ => rfl) ?_
    have hn29 := Sl.le h_l
    obtain ⟨o9, ho9, hm⟩ := Option.bind_eq_some_iff.1 hm
    refine C_cutG (ι := ((List (ByteArray × ByteArray)) × (Nat → Prop))) (fun ⟨s10, A16⟩ => [(4, .map (some b4))]) (fun ⟨s10, A16⟩ => fun w' => o9 = .fin s10 ∧ Hp B A16 w' (obSM (κ := ByteArray) (α := ByteArray) b4 s10 :: L) ∧ Tr False B A6 w5 A16 w') ?_ ?_
    · refine C_block ?_
      refine C_range ho9 (fun k12 s18 a w' => ∃ i : (Nat → Prop), Has ⟨48, [], none⟩ a ([(4, .map (some b4)), (13, v_l), (14, .int .i64 (l.length : Int)), (15, .int .i64 (k12 : Int))]) ∧ Hp B i w' (obSM (κ := ByteArray) (α := ByteArray) b4 s18 :: L) ∧ Tr False B A6 w5 i w') (fun a ha => ⟨A6, ha.sub ⟨rfl, rfl, rfl, rfl, trivial⟩, ⟨hH, Tr.refl (Dw := False) hA⟩⟩) ?_
      rintro K k12 s18 a w19 ⟨A20, ha72, hH21, hr11⟩ hle25 K28 h27
      refine C_of ?_ ha72
      replace h_l := Sl.tr (Dw := False) h_l hr11
      replace hK := Tr.trans (Dw := False) hK hr11
      replace hB := Nat.le_trans hB hr11.ex.size
      replace hA := hr11.new
      replace hH : Hp B A20 w19 (obSM (κ := ByteArray) (α := ByteArray) b4 s18 :: L) := hH21
      refine C_seq (C_region (V_y (Y_lss rfl rfl) rfl rfl rfl (V_to (fun _ _ => rfl) ?_)))
      refine C_seq ?_
      refine C_cond rfl (fun hc30 => ?_) (fun hc30 => ?_)
      · have hlt26 := lt_of_dec hc30
        obtain ⟨x22, h23, h24⟩ := K28 hlt26
        refine C_skip_to (fun _ _ => rfl) ?_
        refine C_seq ?_
        refine C_block ?_
        refine C_seq ?_
        refine C_region ?_
        obtain ⟨x31, hx31, h23⟩ := Option.bind_eq_some_iff.1 h23
        refine V_indexAddr h_l hx31 Tryd.underlying22 Tryd.sizeOf50 rfl rfl rfl ?_
        intro b32 o33 h34
        obtain ⟨h35, _⟩ := El_know_Pair h34
        refine V_y (Y_loadA h35 Tryd.isAgg50 Tryd.sizeOf50 rfl) rfl rfl rfl ?_
        refine V_alloc Tryd.zeroValue50 rfl ?_
        intro b36 w37 h38
        refine V_storeNew h38 Tryd.sizeOf50 rfl rfl rfl rfl (by exact (List.forall_mem_cons.2 ⟨rfl, (List.forall_mem_cons.2 ⟨rfl, (fun _ h => nomatch h)⟩)⟩)) ?_
        intro w39 h40
        have hk42 := h40.kp (Dw := False)
        have h41 : El (α := know_Pair) A20 w39 b36 0 x31 := h40.el hA ⟨[.string x31.name], _, rfl, rfl, rfl⟩
        have ht43 := Kp.tr (Dw := False) hk42 hA hB
        replace hH := Hp.kp (Dw := False) hH hk42
        replace h_l := Sl.tr (Dw := False) h_l ht43
        replace h34 := El.tr (Dw := False) h34 ht43
        replace hK := Tr.trans (Dw := False) hK ht43
        replace hr11 := Tr.trans (Dw := False) hr11 ht43
        replace hB := Nat.le_trans hB ht43.ex.size
        replace hA := ht43.new
        refine V_to (fun _ _ => rfl) ?_
        refine C_seq ?_
        refine C_seq ?_
        obtain ⟨s45, ho44, h23⟩ := Option.bind_eq_some_iff.1 h23
        refine C_cutG (ι := (Nat → Prop)) (fun (A50 : (Nat → Prop)) => [(4, .map (some b4)), (6, .pointer (some ⟨b36, 0, none⟩)), (13, v_l), (14, .int .i64 (l.length : Int)), (15, .int .i64 (k12 : Int)), (28, .bool s45)]) (fun (A50 : (Nat → Prop)) => fun w' => Hp B A50 w' (obSM (κ := ByteArray) (α := ByteArray) b4 s18 :: L) ∧ Tr False B A20 w39 A50 w') ?_ ?_
        · have hr46 : Tr False B A20 w39 A20 w39 := Tr.refl (Dw := False) hA
          refine C_region ?_
          have h52 := El_know_Pair_0 h41
          refine V_y (Y_fieldAddr Tryd.underlying50 rfl Tryd.sizeOf9 (by decide) rfl) rfl rfl rfl ?_
          refine V_y (Y_load (El.str h52) Tryd.isAgg9 rfl) rfl rfl rfl ?_
          refine V_y (Y_lenStr rfl Tryd.underlying9 rfl) rfl rfl rfl ?_
          refine V_call Tryd.call17 rfl rfl rfl rfl (know_within_c w39 (x31.name.size : Int) 1 20) ?_
          rintro _ _ ⟨rfl, rfl⟩
          refine V_y (Y_not rfl) rfl rfl rfl ?_
          refine V_y (Y_move rfl) rfl rfl rfl ?_
          rcases Bool.eq_false_or_eq_true (!(know_within (x31.name.size : Int) 1 20)) with hc53 | hc53
          · rw [if_pos hc53] at ho44
            refine V_gn rfl rfl rfl hc53 rfl rfl rfl ?_
            refine V_gn rfl rfl rfl hc53 rfl rfl rfl ?_
            refine V_gn rfl rfl rfl hc53 rfl rfl rfl ?_
            refine V_y (Y_pick_te rfl hc53 rfl) rfl rfl rfl ?_
            obtain rfl := Option.some.inj ho44
            refine V_end (fun a ha54 => ?_)
            exact ⟨A20, ha54.sub ⟨rfl, rfl, rfl, rfl, rfl, rfl, trivial⟩, ⟨hH, hr46⟩⟩
          · rw [if_neg (nt hc53)] at ho44
            refine V_ge rfl rfl rfl hc53 ?_
            have h55 := El_know_Pair_0 h41
            refine V_y (Y_fieldAddr Tryd.underlying50 rfl Tryd.sizeOf9 (by decide) rfl) rfl rfl rfl ?_
            refine V_ge rfl rfl rfl hc53 ?_
            refine V_y (Y_load (El.str h55) Tryd.isAgg9 rfl) rfl rfl rfl ?_
            refine V_ge rfl rfl rfl hc53 ?_
            refine V_call Tryd.call18 rfl rfl rfl rfl (contains_wrap (Go.Proofs.Any.strings_ContainsFunc_grows Tryd_contains_lay 19 #[] (fun args w => Tryd.call19 args w) (fun y => know_checkPairs_1 (y : Int)) x31.name w39 (fun W x _ _ => Calls.mono (know_checkPairs_1_c W (x : Int)) fun _ _ h => contains_fn h))) ?_
            rintro _ w56 ⟨rfl, hk57⟩
            have ht58 := Kp.tr (Dw := False) hk57 hA hB
            replace hH := Hp.kp (Dw := False) hH hk57
            replace h_l := Sl.tr (Dw := False) h_l ht58
            replace h41 := El.tr (Dw := False) h41 ht58
            replace h52 := El.tr (Dw := False) h52 ht58
            replace h55 := El.tr (Dw := False) h55 ht58
            replace hK := Tr.trans (Dw := False) hK ht58
            replace hr11 := Tr.trans (Dw := False) hr11 ht58
            replace hr46 := Tr.trans (Dw := False) hr46 ht58
            replace hB := Nat.le_trans hB ht58.ex.size
            replace hA := ht58.new
            refine V_y (Y_pick_fe rfl hc53 rfl) rfl rfl rfl ?_
            obtain rfl := Option.some.inj ho44
            refine V_end (fun a ha59 => ?_)
            exact ⟨A20, ha59.sub ⟨rfl, rfl, rfl, rfl, rfl, rfl, trivial⟩, ⟨hH, hr46⟩⟩
        rintro A50 w47 ⟨hH51, hk48⟩ a ha49
        replace h_l := Sl.tr (Dw := False) h_l hk48
        replace h41 := El.tr (Dw := False) h41 hk48
        replace hK := Tr.trans (Dw := False) hK hk48
        replace hr11 := Tr.trans (Dw := False) hr11 hk48
        replace hB := Nat.le_trans hB hk48.ex.size
        replace hA := hk48.new
        replace hH : Hp B A50 w47 (obSM (κ := ByteArray) (α := ByteArray) b4 s18 :: L) := hH51
        refine C_at (n := ⟨48, [], none⟩) (fun _ _ => rfl) ?_ ha49
        refine C_cond rfl (fun hc60 => ?_) (fun hc60 => ?_)
        · rw [if_pos hc60] at h23
          refine C_seq ?_
          refine C_region ?_
          refine V_y (Y_assign rfl) rfl rfl rfl ?_
          refine V_y (Y_assign rfl) rfl rfl rfl ?_
          refine V_to (fun _ _ => rfl) ?_
          obtain rfl := Option.some.inj h23
          obtain rfl := (h24 : Lp.rt _ = _)
          rw [Lp.andThen_rt] at hm
          obtain rfl := Option.some.inj hm
          replace hH : Hp B A50 w47 (obSMo (κ := ByteArray) (α := ByteArray) none ([] : (List (ByteArray × ByteArray))) :: obSM (κ := ByteArray) (α := ByteArray) b4 s18 :: L) := Hp.addNM hH
          replace hH : Hp B A50 w47 (obSMo (κ := ByteArray) (α := ByteArray) none ([] : (List (ByteArray × ByteArray))) :: L) := Hp.drop hH (i := 1) rfl
          refine C_ret ?_
          try simp only [↓inBlock_ret, ↓then_ret]
          exact retQ rfl (Res.two Tryd.results7 rfl rfl) ⟨none, A50, rfl, hH, hK⟩
        · rw [if_neg (nt hc60)] at h23
          refine C_skip_to (fun _ _ => rfl) ?_
          refine C_seq ?_
          refine C_seq ?_
          refine C_region ?_
          refine V_y (Y_move rfl) rfl rfl rfl ?_
          have h61 := El_know_Pair_0 h41
          refine V_y (Y_fieldAddr Tryd.underlying50 rfl Tryd.sizeOf9 (by decide) rfl) rfl rfl rfl ?_
          refine V_y (Y_load (El.str h61) Tryd.isAgg9 rfl) rfl rfl rfl ?_
          refine V_lookupSO (κ := ByteArray) (α := ByteArray) (z := ByteArray.empty) (l := s18) hH (i := 0) rfl Tryd.underlying30 Tryd.underlying9 Tryd.zeroValue9 rfl rfl rfl rfl ?_
          refine V_y (Y_move rfl) rfl rfl rfl ?_
          refine V_y (Y_extract rfl rfl) rfl rfl rfl ?_
          refine V_y (Y_extract rfl rfl) rfl rfl rfl ?_
          refine V_y (Y_assign rfl) rfl rfl rfl ?_
          refine V_y (Y_assign rfl) rfl rfl rfl ?_
          refine V_to (fun _ _ => rfl) ?_
          refine C_seq ?_
          refine C_region ?_
          refine V_y (Y_move rfl) rfl rfl rfl ?_
          refine V_to (fun _ _ => rfl) ?_
          refine C_cond rfl (fun hc62 => ?_) (fun hc62 => ?_)
          · rw [if_pos hc62] at h23
            refine C_seq ?_
            refine C_region ?_
            refine V_y (Y_assign rfl) rfl rfl rfl ?_
            refine V_y (Y_assign rfl) rfl rfl rfl ?_
            refine V_to (fun _ _ => rfl) ?_
            obtain rfl := Option.some.inj h23
            obtain rfl := (h24 : Lp.rt _ = _)
            rw [Lp.andThen_rt] at hm
            obtain rfl := Option.some.inj hm
            replace hH : Hp B A50 w47 (obSMo (κ := ByteArray) (α := ByteArray) none ([] : (List (ByteArray × ByteArray))) :: obSM (κ := ByteArray) (α := ByteArray) b4 s18 :: L) := Hp.addNM hH
            replace hH : Hp B A50 w47 (obSMo (κ := ByteArray) (α := ByteArray) none ([] : (List (ByteArray × ByteArray))) :: L) := Hp.drop hH (i := 1) rfl
            refine C_ret ?_
            try simp only [↓inBlock_ret, ↓then_ret]
            exact retQ rfl (Res.two Tryd.results7 rfl rfl) ⟨none, A50, rfl, hH, hK⟩
          · rw [if_neg (nt hc62)] at h23
            refine C_skip_to (fun _ _ => rfl) ?_
            refine C_seq ?_
            refine C_seq ?_
            refine C_region ?_
            have h63 := El_know_Pair_1 h41
            refine V_y (Y_fieldAddr Tryd.underlying50 rfl Tryd.sizeOf9 (by decide) rfl) rfl rfl rfl ?_
            refine V_y (Y_load (El.str h63) Tryd.isAgg9 rfl) rfl rfl rfl ?_
            refine V_y (Y_lenStr rfl Tryd.underlying9 rfl) rfl rfl rfl ?_
            refine V_y (Y_gtr rfl rfl) rfl rfl rfl ?_
            refine V_to (fun _ _ => rfl) ?_
            refine C_cond rfl (fun hc64 => ?_) (fun hc64 => ?_)
            · rw [if_pos hc64] at h23
              refine C_seq ?_
              refine C_region ?_
              refine V_y (Y_assign rfl) rfl rfl rfl ?_
              refine V_y (Y_assign rfl) rfl rfl rfl ?_
              refine V_to (fun _ _ => rfl) ?_
              obtain rfl := Option.some.inj h23
              obtain rfl := (h24 : Lp.rt _ = _)
              rw [Lp.andThen_rt] at hm
              obtain rfl := Option.some.inj hm
              replace hH : Hp B A50 w47 (obSMo (κ := ByteArray) (α := ByteArray) none ([] : (List (ByteArray × ByteArray))) :: obSM (κ := ByteArray) (α := ByteArray) b4 s18 :: L) := Hp.addNM hH
              replace hH : Hp B A50 w47 (obSMo (κ := ByteArray) (α := ByteArray) none ([] : (List (ByteArray × ByteArray))) :: L) := Hp.drop hH (i := 1) rfl
              refine C_ret ?_
              try simp only [↓inBlock_ret, ↓then_ret]
              exact retQ rfl (Res.two Tryd.results7 rfl rfl) ⟨none, A50, rfl, hH, hK⟩
            · rw [if_neg (nt hc64)] at h23
              refine C_skip_to (fun _ _ => rfl) ?_
              refine C_region ?_
              refine V_y (Y_move rfl) rfl rfl rfl ?_
              have h65 := El_know_Pair_0 h41
              refine V_y (Y_fieldAddr Tryd.underlying50 rfl Tryd.sizeOf9 (by decide) rfl) rfl rfl rfl ?_
              refine V_y (Y_load (El.str h65) Tryd.isAgg9 rfl) rfl rfl rfl ?_
              have h66 := El_know_Pair_1 h41
              refine V_y (Y_fieldAddr Tryd.underlying50 rfl Tryd.sizeOf9 (by decide) rfl) rfl rfl rfl ?_
              refine V_y (Y_load (El.str h66) Tryd.isAgg9 rfl) rfl rfl rfl ?_
              refine V_mapUpdateS (Dw := False) (κ := ByteArray) (α := ByteArray) (l := s18) (c := x31.value) hH (i := 0) rfl Tryd.underlying30 Tryd.underlying9 rfl rfl rfl hB hA ?_
              intro w67 hH68 ht69
              replace h_l := Sl.tr (Dw := False) h_l ht69
              replace h41 := El.tr (Dw := False) h41 ht69
              replace h65 := El.tr (Dw := False) h65 ht69
              replace h66 := El.tr (Dw := False) h66 ht69
              replace hK := Tr.trans (Dw := False) hK ht69
              replace hr11 := Tr.trans (Dw := False) hr11 ht69
              replace hB := Nat.le_trans hB ht69.ex.size
              replace hA := ht69.new
              replace hH : Hp B A50 w67 (obSM (κ := ByteArray) (α := ByteArray) b4 (mapPut s18 x31.name x31.value) :: L) := hH68
              refine V_to (fun _ _ => rfl) ?_
              refine C_region ?_
              refine V_y (Y_addI rfl rfl) rfl rfl rfl ?_
              refine V_y (Y_move rfl) rfl rfl rfl ?_
              obtain rfl := Option.some.inj h23
              refine V_end (fun a ha70 => ?_)
              exact ⟨(mapPut s18 x31.name x31.value), hlt26, h24, ⟨A50, ha70.sub ⟨rfl, rfl, rfl, (congrArg (fun z => some (Value.int .i64 z)) (w64_succ hlt26 hn29)), trivial⟩, ⟨hH, hr11⟩⟩⟩
      · refine C_exit (fun a ha71 => ?_)
        exact ⟨(s18, A20), ha71.sub ⟨rfl, trivial⟩, ⟨(h27 (eq_of_dec hle25 hc30)).symm, hH, hr11⟩⟩
    rintro ⟨s10, A16⟩ w13 ⟨rfl, hH17, hk14⟩ a ha15
    rw [Lp.andThen_fin] at hm
    replace hK := Tr.trans (Dw := False) hK hk14
    replace hB := Nat.le_trans hB hk14.ex.size
    replace hA := hk14.new
    replace hH : Hp B A16 w13 (obSM (κ := ByteArray) (α := ByteArray) b4 s10 :: L) := hH17
    refine C_at (n := ⟨48, [], none⟩) (fun _ _ => rfl) ?_ ha15
    refine C_seq ?_
    refine C_region ?_
    refine V_y (Y_move rfl) rfl rfl rfl ?_
    refine V_y (Y_assign rfl) rfl rfl rfl ?_
    refine V_y (Y_assign rfl) rfl rfl rfl ?_
    refine V_to (fun _ _ => rfl) ?_
    obtain rfl := Option.some.inj hm
    replace hH : Hp B A16 w13 (obSMo (κ := ByteArray) (α := ByteArray) (some b4) s10 :: L) := hH
    refine C_ret ?_
    try simp only [↓inBlock_ret, ↓then_ret]
    exact retQ rfl (Res.two Tryd.results7 rfl rfl) ⟨(some b4), A16, rfl, hH, hK⟩

def Tryd_strings_Builder_Len_lay_ren : Go.Shelf.Ren := ⟨fun | 170 => 9 | n => n, fun | 0 => 0 | 1 => 1 | 2 => 2 | 3 => 3 | 4 => 4 | 5 => 5 | 6 => 6 | 7 => 7 | 8 => 8 | 9 => 9 | 10 => 10 | 11 => 11 | 12 => 12 | 13 => 13 | 14 => 14 | 15 => 15 | 16 => 16 | 17 => 17 | 18 => 18 | 19 => 19 | 20 => 20 | 21 => 21 | 23 => 68 | 24 => 39 | 27 => 92 | 31 => 52 | 37 => 34 | 40 => 63 | 41 => 62 | 46 => 100 | 51 => 105 | 55 => 78 | 63 => 95 | 64 => 98 | 65 => 77 | 66 => 65 | 67 => 55 | 69 => 88 | 70 => 33 | 71 => 35 | 72 => 36 | 73 => 69 | 74 => 40 | 75 => 41 | 76 => 42 | 77 => 43 | 78 => 89 | 80 => 45 | 81 => 44 | 103 => 97 | 104 => 51 | 105 => 93 | 106 => 94 | 114 => 99 | 115 => 82 | 116 => 83 | 117 => 84 | 118 => 85 | 119 => 101 | 122 => 81 | 123 => 86 | 124 => 87 | 127 => 64 | 137 => 102 | 138 => 103 | 139 => 104 | 146 => 106 | 151 => 107 | 155 => 91 | 164 => 75 | 165 => 76 | 166 => 96 | 238 => 108 | 239 => 109 | 240 => 110 | 241 => 111 | 242 => 112 | 243 => 113 | 244 => 114 | 245 => 115 | 246 => 116 | 247 => 117 | 248 => 118 | 249 => 119 | n => n, fun | 1 => 0 | 3 => 1 | 4 => 2 | n => n⟩
theorem Tryd_strings_Builder_Len_lay : Go.Proofs.Lays.n170 Tryd.prog Tryd_strings_Builder_Len_lay_ren := {
  mixed := by kernel_rfl,
  f170 := Tryd.func9.trans (congrArg some (by kernel_rfl)),
  t0 := Tryd.underlying0,
  a0 := Tryd.isAgg0,
  z0 := Tryd.sizeOf0,
  v0 := Tryd.zeroValue0,
  t3 := Tryd.underlying3,
  a3 := Tryd.isAgg3,
  z3 := Tryd.sizeOf3,
  v3 := Tryd.zeroValue3,
  t37 := Tryd.underlying34,
  a37 := Tryd.isAgg34,
  z37 := Tryd.sizeOf34,
  v37 := Tryd.zeroValue34,
  t70 := Tryd.underlying33,
  a70 := Tryd.isAgg33,
  z70 := Tryd.sizeOf33,
  v70 := Tryd.zeroValue33,
  t72 := Tryd.underlying36,
  a72 := Tryd.isAgg36,
  z72 := Tryd.sizeOf36,
  v72 := Tryd.zeroValue36 }
theorem Tryd_strings_Builder_Len_lay_x : Go.Proofs.Builder.Extra Tryd.prog Tryd_strings_Builder_Len_lay_ren := {
  sizeBuilder := by kernel_rfl
  liesBuilder := by kernel_rfl
  t5 := Tryd.underlying5
  a5 := Tryd.isAgg5
  z5 := Tryd.sizeOf5
  v5 := Tryd.zeroValue5
  infoByte := by kernel_rfl
  cellsByte := by kernel_rfl
  sizeByte := by kernel_rfl
  neB5 := (by decide : (36 : Nat) ≠ 5) }
theorem strings_Builder_Len_c (w : World) {A : Nat → Prop} {B : Nat} (hB : B ≤ w.heap.size) (hA : ∀ b, w.heap.size ≤ b → A b) (b : ByteArray) (b_b : Nat) {L : List Ob} (hH : Hp B A w (obBd 36 5 b_b  b :: L)) {r : Int} (hm : strings_Builder_Len b = some r) : Ret Tryd.prog 9 #[.pointer (some ⟨b_b, 0, none⟩)] w fun v w' => ∃ A1 : Nat → Prop, v = .int .i64 r ∧ Hp B A1 w' (obBd 36 5 b_b  b :: L) ∧ Tr False B A w A1 w' := by
  unfold strings_Builder_Len at hm
  obtain rfl := Option.some.inj hm
  exact Hp.bdLen (ρ := Tryd_strings_Builder_Len_lay_ren) (fun bs h1 => Go.Proofs.Any.Builder_Len_f Tryd_strings_Builder_Len_lay 0 b_b bs w h1) hB hA hH

set_option maxRecDepth 4000 in
set_option maxHeartbeats 4000000 in
theorem know_Fill_c (w : World) {A : Nat → Prop} (hA : ∀ b, w.heap.size ≤ b → A b) (s : ByteArray) (l : (List know_Pair)) (v_l : Value) (h_l : Sl A w v_l l) {r : (ByteArray × Int)} (hm : know_Fill s l = some r) : Ret Tryd.prog 4 #[.string s, v_l] w fun v w' => v = .tuple #[.string r.1, .int .i64 r.2] ∧ Kp False w w' := by
  unfold know_Fill at hm
  refine enter Tryd.func4 rfl Tryd.ntmps4 rfl ?_
  have hA0 := hA
  have hB := Nat.le_refl w.heap.size
  have hK : Tr False w.heap.size A w A w := Tr.refl (Dw := False) hA
  have hH : Hp w.heap.size A w [] := Hp.nil
  refine C_seq ?_
  refine C_region ?_
  refine V_y (Y_assign rfl) rfl rfl rfl ?_
  refine V_y (Y_assign rfl) rfl rfl rfl ?_
  refine V_to (fun _ _ => rfl) ?_
  refine C_seq ?_
  refine C_region ?_
  refine V_y (Y_move rfl) rfl rfl rfl ?_
  obtain ⟨x3, hx3, hm⟩ := Option.bind_eq_some_iff.1 hm
  refine V_call Tryd.call6 rfl rfl rfl rfl (know_template_c w hA s hx3) ?_
  rintro _ w6 ⟨v4, rfl, h5, hk7⟩
  have ht8 := Kp.tr (Dw := False) hk7 hA hB
  replace hH := Hp.kp (Dw := False) hH hk7
  replace h_l := Sl.tr (Dw := False) h_l ht8
  replace hK := Tr.trans (Dw := False) hK ht8
  replace hB := Nat.le_trans hB ht8.ex.size
  replace hA := ht8.new
  refine V_y (Y_move rfl) rfl rfl rfl ?_
  refine V_y (Y_extract rfl rfl) rfl rfl rfl ?_
  refine V_y (Y_extract rfl rfl) rfl rfl rfl ?_
  refine V_y (Y_extract rfl rfl) rfl rfl rfl ?_
  refine V_y (Y_assign rfl) rfl rfl rfl ?_
  refine V_y (Y_assign rfl) rfl rfl rfl ?_
  refine V_y (Y_assign rfl) rfl rfl rfl ?_
  refine V_to (fun _ _ => rfl) ?_
  refine C_seq ?_
  refine C_seq ?_
  refine C_region ?_
  refine V_y (Y_move rfl) rfl rfl rfl ?_
  refine V_y (Y_neq rfl rfl) rfl rfl rfl ?_
  refine V_to (fun _ _ => rfl) ?_
  refine C_cond rfl (fun hc9 => ?_) (fun hc9 => ?_)
  · rw [if_pos hc9] at hm
    refine C_seq ?_
    refine C_region ?_
    refine V_y (Y_move rfl) rfl rfl rfl ?_
    refine V_y (Y_assign rfl) rfl rfl rfl ?_
    refine V_y (Y_assign rfl) rfl rfl rfl ?_
    refine V_to (fun _ _ => rfl) ?_
    obtain rfl := Option.some.inj hm
    refine C_ret ?_
    try simp only [↓inBlock_ret, ↓then_ret]
    exact retQ rfl (Res.two Tryd.results4 rfl rfl) ⟨rfl, hK.kp⟩
  · rw [if_neg (nt hc9)] at hm
    refine C_skip_to (fun _ _ => rfl) ?_
    refine C_seq ?_
    refine C_region ?_
    refine V_y (Y_move rfl) rfl rfl rfl ?_
    obtain ⟨x10, hx10, hm⟩ := Option.bind_eq_some_iff.1 hm
    refine V_call Tryd.call7 rfl rfl rfl rfl (know_checkPairs_c w6 hB hA l v_l h_l hH hx10) ?_
    rintro _ w12 ⟨m11, A13, rfl, hH14, ht15⟩
    replace h_l := Sl.tr (Dw := False) h_l ht15
    replace h5 := Sl.tr (Dw := False) h5 ht15
    replace hK := Tr.trans (Dw := False) hK ht15
    replace hB := Nat.le_trans hB ht15.ex.size
    replace hA := ht15.new
    replace hH : Hp w.heap.size A13 w12 (obSMo (κ := ByteArray) (α := ByteArray) m11 x10.1 :: []) := hH14
    refine V_y (Y_move rfl) rfl rfl rfl ?_
    refine V_y (Y_extract rfl rfl) rfl rfl rfl ?_
    refine V_y (Y_extract rfl rfl) rfl rfl rfl ?_
    refine V_y (Y_assign rfl) rfl rfl rfl ?_
    refine V_y (Y_assign rfl) rfl rfl rfl ?_
    refine V_to (fun _ _ => rfl) ?_
    refine C_seq ?_
    refine C_seq ?_
    refine C_region ?_
    refine V_y (Y_move rfl) rfl rfl rfl ?_
    refine V_y (Y_neq rfl rfl) rfl rfl rfl ?_
    refine V_to (fun _ _ => rfl) ?_
    refine C_cond rfl (fun hc16 => ?_) (fun hc16 => ?_)
    · rw [if_pos hc16] at hm
      refine C_seq ?_
      refine C_region ?_
      refine V_y (Y_move rfl) rfl rfl rfl ?_
      refine V_y (Y_assign rfl) rfl rfl rfl ?_
      refine V_y (Y_assign rfl) rfl rfl rfl ?_
      refine V_to (fun _ _ => rfl) ?_
      obtain rfl := Option.some.inj hm
      refine C_ret ?_
      try simp only [↓inBlock_ret, ↓then_ret]
      exact retQ rfl (Res.two Tryd.results4 rfl rfl) ⟨rfl, hK.kp⟩
    · rw [if_neg (nt hc16)] at hm
      refine C_skip_to (fun _ _ => rfl) ?_
      refine C_seq ?_
      refine C_region ?_
      refine V_allocH (Dw := False) (B := w.heap.size) hH Tryd.zeroValue36 hB hA rfl ?_
      intro b17 w18 A19 hH20 ht21
      replace hH20 := Hp.bdOf (e := 5) hH20
      replace h5 := Sl.tr (Dw := False) h5 ht21
      replace hK := Tr.trans (Dw := False) hK ht21
      replace hB := Nat.le_trans hB ht21.ex.size
      replace hA := ht21.new
      replace hH : Hp w.heap.size A19 w18 (obBd 36 5 b17 ByteArray.empty :: obSMo (κ := ByteArray) (α := ByteArray) m11 x10.1 :: []) := hH20
      refine V_to (fun _ _ => rfl) ?_
      refine C_seq ?_
      refine C_seq ?_
      refine C_region ?_
      refine V_y (Y_move rfl) rfl rfl rfl ?_
      refine V_y (Y_lenSl h5 rfl Tryd.underlying27 rfl) rfl rfl rfl ?_
      refine V_y (Y_move rfl) rfl rfl rfl ?_
      refine V_to (fun _ _ => rfl) ?_
      have hn43 := Sl.le h5
      obtain ⟨o22, ho22, hm⟩ := Option.bind_eq_some_iff.1 hm
      refine C_cutG (ι := (ByteArray × (Nat → Prop))) (fun ⟨s23, A29⟩ => [(10, .pointer (some ⟨b17, 0, none⟩))]) (fun ⟨s23, A29⟩ => fun w' => o22 = .fin s23 ∧ Hp w.heap.size A29 w' (obBd 36 5 b17 s23 :: obSMo (κ := ByteArray) (α := ByteArray) m11 x10.1 :: []) ∧ Tr False w.heap.size A19 w18 A29 w') ?_ ?_
      · refine C_block ?_
        refine C_range ho22 (fun k25 s31 a w' => ∃ i : (Nat → Prop), Has ⟨86, [], none⟩ a ([(9, .map m11), (10, .pointer (some ⟨b17, 0, none⟩)), (32, v4), (33, .int .i64 (x3.1.length : Int)), (34, .int .i64 (k25 : Int))]) ∧ Hp w.heap.size i w' (obBd 36 5 b17 s31 :: obSMo (κ := ByteArray) (α := ByteArray) m11 x10.1 :: []) ∧ Tr False w.heap.size A19 w18 i w') (fun a ha => ⟨A19, ha.sub ⟨rfl, rfl, rfl, rfl, rfl, trivial⟩, ⟨hH, Tr.refl (Dw := False) hA⟩⟩) ?_
        rintro K k25 s31 a w33 ⟨A34, ha131, hH35, hr24⟩ hle39 K42 h41
        refine C_of ?_ ha131
        replace h5 := Sl.tr (Dw := False) h5 hr24
        replace hK := Tr.trans (Dw := False) hK hr24
        replace hB := Nat.le_trans hB hr24.ex.size
        replace hA := hr24.new
        replace hH : Hp w.heap.size A34 w33 (obBd 36 5 b17 s31 :: obSMo (κ := ByteArray) (α := ByteArray) m11 x10.1 :: []) := hH35
        refine C_seq (C_region (V_y (Y_lss rfl rfl) rfl rfl rfl (V_to (fun _ _ => rfl) ?_)))
        refine C_seq ?_
        refine C_cond rfl (fun hc44 => ?_) (fun hc44 => ?_)
        · have hlt40 := lt_of_dec hc44
          obtain ⟨x36, h37, h38⟩ := K42 hlt40
          refine C_skip_to (fun _ _ => rfl) ?_
          refine C_seq ?_
          obtain ⟨o45, ho45, h37⟩ := Option.bind_eq_some_iff.1 h37
          refine C_cutG (ι := (ByteArray × (Nat → Prop))) (fun ⟨s46, A51⟩ => [(9, .map m11), (10, .pointer (some ⟨b17, 0, none⟩)), (32, v4), (33, .int .i64 (x3.1.length : Int)), (34, .int .i64 (k25 : Int))]) (fun ⟨s46, A51⟩ => fun w' => o45 = .fin s46 ∧ Hp w.heap.size A51 w' (obBd 36 5 b17 s46 :: obSMo (κ := ByteArray) (α := ByteArray) m11 x10.1 :: []) ∧ Tr False w.heap.size A34 w33 A51 w') ?_ ?_
          · have hr47 : Tr False w.heap.size A34 w33 A34 w33 := Tr.refl (Dw := False) hA
            refine C_block ?_
            refine C_seq ?_
            refine C_region ?_
            obtain ⟨x53, hx53, ho45⟩ := Option.bind_eq_some_iff.1 ho45
            refine V_indexAddr h5 hx53 Tryd.underlying27 Tryd.sizeOf38 rfl rfl rfl ?_
            intro b54 o55 h56
            obtain ⟨h57, _⟩ := El_know_field h56
            refine V_y (Y_loadA h57 Tryd.isAgg38 Tryd.sizeOf38 rfl) rfl rfl rfl ?_
            refine V_alloc Tryd.zeroValue38 rfl ?_
            intro b58 w59 h60
            refine V_storeNew h60 Tryd.sizeOf38 rfl rfl rfl rfl (by exact (List.forall_mem_cons.2 ⟨rfl, (List.forall_mem_cons.2 ⟨rfl, (List.forall_mem_cons.2 ⟨rfl, (List.forall_mem_cons.2 ⟨rfl, (fun _ h => nomatch h)⟩)⟩)⟩)⟩)) ?_
            intro w61 h62
            have hk64 := h62.kp (Dw := False)
            have h63 : El (α := know_field) A34 w61 b58 0 x53 := h62.el hA ⟨[.string x53.name], _, rfl, rfl, ⟨[.int .u8 (x53.kind.toNat : Int)], _, rfl, rfl, ⟨[.string x53.one], _, rfl, rfl, rfl⟩⟩⟩
            have ht65 := Kp.tr (Dw := False) hk64 hA hB
            replace hH := Hp.kp (Dw := False) hH hk64
            replace h5 := Sl.tr (Dw := False) h5 ht65
            replace h56 := El.tr (Dw := False) h56 ht65
            replace hK := Tr.trans (Dw := False) hK ht65
            replace hr24 := Tr.trans (Dw := False) hr24 ht65
            replace hr47 := Tr.trans (Dw := False) hr47 ht65
            replace hB := Nat.le_trans hB ht65.ex.size
            replace hA := ht65.new
            refine V_to (fun _ _ => rfl) ?_
            refine C_seq ?_
            refine C_region ?_
            refine V_y (Y_move rfl) rfl rfl rfl ?_
            have h66 := El_know_field_0 h63
            refine V_y (Y_fieldAddr Tryd.underlying38 rfl Tryd.sizeOf9 (by decide) rfl) rfl rfl rfl ?_
            refine V_y (Y_load (El.str h66) Tryd.isAgg9 rfl) rfl rfl rfl ?_
            refine V_lookupSMO (κ := ByteArray) (α := ByteArray) (z := ByteArray.empty) (l := x10.1) hH (i := 1) rfl Tryd.underlying30 Tryd.underlying9 Tryd.zeroValue9 rfl rfl rfl rfl ?_
            refine V_y (Y_move rfl) rfl rfl rfl ?_
            refine V_y (Y_extract rfl rfl) rfl rfl rfl ?_
            refine V_y (Y_extract rfl rfl) rfl rfl rfl ?_
            refine V_y (Y_assign rfl) rfl rfl rfl ?_
            refine V_y (Y_assign rfl) rfl rfl rfl ?_
            refine V_to (fun _ _ => rfl) ?_
            obtain ⟨o67, ho67, ho45⟩ := Option.bind_eq_some_iff.1 ho45
            refine C_cutG (ι := (ByteArray × (Nat → Prop))) (fun ⟨s68, A73⟩ => [(9, .map m11), (10, .pointer (some ⟨b17, 0, none⟩)), (32, v4), (33, .int .i64 (x3.1.length : Int)), (34, .int .i64 (k25 : Int))]) (fun ⟨s68, A73⟩ => fun w' => o67 = .fin s68 ∧ Hp w.heap.size A73 w' (obBd 36 5 b17 s68 :: obSMo (κ := ByteArray) (α := ByteArray) m11 x10.1 :: []) ∧ Tr False w.heap.size A34 w61 A73 w') ?_ ?_
            · have hr69 : Tr False w.heap.size A34 w61 A34 w61 := Tr.refl (Dw := False) hA
              refine C_block ?_
              refine C_seq ?_
              refine C_region ?_
              have h75 := El_know_field_0 h63
              refine V_y (Y_fieldAddr Tryd.underlying38 rfl Tryd.sizeOf9 (by decide) rfl) rfl rfl rfl ?_
              refine V_y (Y_load (El.str h75) Tryd.isAgg9 rfl) rfl rfl rfl ?_
              refine V_y (Y_seql rfl rfl) rfl rfl rfl ?_
              refine V_y (Y_move rfl) rfl rfl rfl ?_
              refine V_cut 8 (fun _ : Unit => [(9, .map m11), (10, .pointer (some ⟨b17, 0, none⟩)), (12, .pointer (some ⟨b58, 0, none⟩)), (13, .string ((mapGet x10.1 x53.name).getD ByteArray.empty)), (14, .bool ((mapGet x10.1 x53.name).isSome)), (32, v4), (33, .int .i64 (x3.1.length : Int)), (34, .int .i64 (k25 : Int)), (59, .bool ((strEq x53.name (⟨#[]⟩ : ByteArray)) || (((x53.kind.toNat : Int) == 124) && (strEq ((mapGet x10.1 x53.name).getD ByteArray.empty) (⟨#[]⟩ : ByteArray)))))]) (fun _ w' => w61 = w') ?_ ?_
              · simp only [List.take, List.drop]
                rcases Bool.eq_false_or_eq_true (strEq x53.name (⟨#[]⟩ : ByteArray)) with hc76 | hc76
                · refine V_gn rfl rfl rfl hc76 rfl rfl rfl ?_
                  refine V_gn rfl rfl rfl hc76 rfl rfl rfl ?_
                  refine V_gn rfl rfl rfl hc76 rfl rfl rfl ?_
                  refine V_gn rfl rfl rfl hc76 rfl rfl rfl ?_
                  refine V_gu rfl rfl rfl rfl rfl ?_
                  refine V_gu rfl rfl rfl rfl rfl ?_
                  refine V_gn rfl rfl rfl hc76 rfl rfl rfl ?_
                  refine V_y (Y_pick_te rfl hc76 rfl) rfl rfl rfl ?_
                  exact V_end fun a ha => ⟨(), ha.sub ⟨rfl, rfl, rfl, rfl, rfl, rfl, rfl, rfl, (by rw [hc76]; rfl), trivial⟩, rfl⟩
                · refine V_ge rfl rfl rfl hc76 ?_
                  have h78 := El_know_field_1 h63
                  refine V_y (Y_fieldAddr Tryd.underlying38 rfl Tryd.sizeOf5 (by decide) rfl) rfl rfl rfl ?_
                  refine V_ge rfl rfl rfl hc76 ?_
                  refine V_y (Y_load (El.u8 h78) Tryd.isAgg5 rfl) rfl rfl rfl ?_
                  refine V_ge rfl rfl rfl hc76 ?_
                  refine V_y (Y_eql rfl rfl) rfl rfl rfl ?_
                  refine V_ge rfl rfl rfl hc76 ?_
                  refine V_y (Y_move rfl) rfl rfl rfl ?_
                  refine V_cut 3 (fun _ : Unit => [(9, .map m11), (10, .pointer (some ⟨b17, 0, none⟩)), (12, .pointer (some ⟨b58, 0, none⟩)), (13, .string ((mapGet x10.1 x53.name).getD ByteArray.empty)), (14, .bool ((mapGet x10.1 x53.name).isSome)), (32, v4), (33, .int .i64 (x3.1.length : Int)), (34, .int .i64 (k25 : Int)), (51, .bool (strEq x53.name (⟨#[]⟩ : ByteArray))), (58, .bool (((x53.kind.toNat : Int) == 124) && (strEq ((mapGet x10.1 x53.name).getD ByteArray.empty) (⟨#[]⟩ : ByteArray))))]) (fun _ w' => w61 = w') ?_ ?_
                  · simp only [List.take, List.drop]
                    rcases Bool.eq_false_or_eq_true ((x53.kind.toNat : Int) == 124) with hc79 | hc79
                    · refine V_ge rfl rfl rfl hc79 ?_
                      refine V_y (Y_move rfl) rfl rfl rfl ?_
                      refine V_ge rfl rfl rfl hc79 ?_
                      refine V_y (Y_seql rfl rfl) rfl rfl rfl ?_
                      refine V_ge rfl rfl rfl hc76 ?_
                      refine V_y (Y_pick_te rfl hc79 rfl) rfl rfl rfl ?_
                      exact V_end fun a ha => ⟨(), ha.sub ⟨rfl, rfl, rfl, rfl, rfl, rfl, rfl, rfl, rfl, (by rw [hc79]; rfl), trivial⟩, rfl⟩
                    · refine V_gn rfl rfl rfl hc79 rfl rfl rfl ?_
                      refine V_gn rfl rfl rfl hc79 rfl rfl rfl ?_
                      refine V_ge rfl rfl rfl hc76 ?_
                      refine V_y (Y_pick_fe rfl hc79 rfl) rfl rfl rfl ?_
                      exact V_end fun a ha => ⟨(), ha.sub ⟨rfl, rfl, rfl, rfl, rfl, rfl, rfl, rfl, rfl, (by rw [hc79]; rfl), trivial⟩, rfl⟩
                  simp only [List.take, List.drop]
                  rintro _ _ rfl
                  refine V_y (Y_pick_fe rfl hc76 rfl) rfl rfl rfl ?_
                  exact V_end fun a ha => ⟨(), ha.sub ⟨rfl, rfl, rfl, rfl, rfl, rfl, rfl, rfl, (by rw [hc76]; rfl), trivial⟩, rfl⟩
              simp only [List.take, List.drop]
              rintro _ _ rfl
              refine V_y (Y_move rfl) rfl rfl rfl ?_
              refine V_cut 8 (fun _ : Unit => [(9, .map m11), (10, .pointer (some ⟨b17, 0, none⟩)), (12, .pointer (some ⟨b58, 0, none⟩)), (13, .string ((mapGet x10.1 x53.name).getD ByteArray.empty)), (14, .bool ((mapGet x10.1 x53.name).isSome)), (32, v4), (33, .int .i64 (x3.1.length : Int)), (34, .int .i64 (k25 : Int)), (68, .bool (((strEq x53.name (⟨#[]⟩ : ByteArray)) || (((x53.kind.toNat : Int) == 124) && (strEq ((mapGet x10.1 x53.name).getD ByteArray.empty) (⟨#[]⟩ : ByteArray)))) || (((x53.kind.toNat : Int) == 63) && (!(strEq ((mapGet x10.1 x53.name).getD ByteArray.empty) (⟨#[]⟩ : ByteArray))))))]) (fun _ w' => w61 = w') ?_ ?_
              · simp only [List.take, List.drop]
                rcases Bool.eq_false_or_eq_true (((strEq x53.name (⟨#[]⟩ : ByteArray)) || (((x53.kind.toNat : Int) == 124) && (strEq ((mapGet x10.1 x53.name).getD ByteArray.empty) (⟨#[]⟩ : ByteArray))))) with hc81 | hc81
                · refine V_gn rfl rfl rfl hc81 rfl rfl rfl ?_
                  refine V_gn rfl rfl rfl hc81 rfl rfl rfl ?_
                  refine V_gn rfl rfl rfl hc81 rfl rfl rfl ?_
                  refine V_gn rfl rfl rfl hc81 rfl rfl rfl ?_
                  refine V_gu rfl rfl rfl rfl rfl ?_
                  refine V_gu rfl rfl rfl rfl rfl ?_
                  refine V_gn rfl rfl rfl hc81 rfl rfl rfl ?_
                  refine V_y (Y_pick_te rfl hc81 rfl) rfl rfl rfl ?_
                  exact V_end fun a ha => ⟨(), ha.sub ⟨rfl, rfl, rfl, rfl, rfl, rfl, rfl, rfl, (by rw [hc81]; rfl), trivial⟩, rfl⟩
                · refine V_ge rfl rfl rfl hc81 ?_
                  have h83 := El_know_field_1 h63
                  refine V_y (Y_fieldAddr Tryd.underlying38 rfl Tryd.sizeOf5 (by decide) rfl) rfl rfl rfl ?_
                  refine V_ge rfl rfl rfl hc81 ?_
                  refine V_y (Y_load (El.u8 h83) Tryd.isAgg5 rfl) rfl rfl rfl ?_
                  refine V_ge rfl rfl rfl hc81 ?_
                  refine V_y (Y_eql rfl rfl) rfl rfl rfl ?_
                  refine V_ge rfl rfl rfl hc81 ?_
                  refine V_y (Y_move rfl) rfl rfl rfl ?_
                  refine V_cut 3 (fun _ : Unit => [(9, .map m11), (10, .pointer (some ⟨b17, 0, none⟩)), (12, .pointer (some ⟨b58, 0, none⟩)), (13, .string ((mapGet x10.1 x53.name).getD ByteArray.empty)), (14, .bool ((mapGet x10.1 x53.name).isSome)), (32, v4), (33, .int .i64 (x3.1.length : Int)), (34, .int .i64 (k25 : Int)), (60, .bool ((strEq x53.name (⟨#[]⟩ : ByteArray)) || (((x53.kind.toNat : Int) == 124) && (strEq ((mapGet x10.1 x53.name).getD ByteArray.empty) (⟨#[]⟩ : ByteArray))))), (67, .bool (((x53.kind.toNat : Int) == 63) && (!(strEq ((mapGet x10.1 x53.name).getD ByteArray.empty) (⟨#[]⟩ : ByteArray)))))]) (fun _ w' => w61 = w') ?_ ?_
                  · simp only [List.take, List.drop]
                    rcases Bool.eq_false_or_eq_true ((x53.kind.toNat : Int) == 63) with hc84 | hc84
                    · refine V_ge rfl rfl rfl hc84 ?_
                      refine V_y (Y_move rfl) rfl rfl rfl ?_
                      refine V_ge rfl rfl rfl hc84 ?_
                      refine V_y (Y_sneq rfl rfl) rfl rfl rfl ?_
                      refine V_ge rfl rfl rfl hc81 ?_
                      refine V_y (Y_pick_te rfl hc84 rfl) rfl rfl rfl ?_
                      exact V_end fun a ha => ⟨(), ha.sub ⟨rfl, rfl, rfl, rfl, rfl, rfl, rfl, rfl, rfl, (by rw [hc84]; rfl), trivial⟩, rfl⟩
                    · refine V_gn rfl rfl rfl hc84 rfl rfl rfl ?_
                      refine V_gn rfl rfl rfl hc84 rfl rfl rfl ?_
                      refine V_ge rfl rfl rfl hc81 ?_
                      refine V_y (Y_pick_fe rfl hc84 rfl) rfl rfl rfl ?_
                      exact V_end fun a ha => ⟨(), ha.sub ⟨rfl, rfl, rfl, rfl, rfl, rfl, rfl, rfl, rfl, (by rw [hc84]; rfl), trivial⟩, rfl⟩
                  simp only [List.take, List.drop]
                  rintro _ _ rfl
                  refine V_y (Y_pick_fe rfl hc81 rfl) rfl rfl rfl ?_
                  exact V_end fun a ha => ⟨(), ha.sub ⟨rfl, rfl, rfl, rfl, rfl, rfl, rfl, rfl, (by rw [hc81]; rfl), trivial⟩, rfl⟩
              simp only [List.take, List.drop]
              rintro _ _ rfl
              refine V_y (Y_assign rfl) rfl rfl rfl ?_
              refine V_to (fun _ _ => rfl) ?_
              obtain ⟨o86, ho86, ho67⟩ := Option.bind_eq_some_iff.1 ho67
              refine C_cutG (ι := (ByteArray × (Nat → Prop))) (fun ⟨s87, A92⟩ => [(9, .map m11), (10, .pointer (some ⟨b17, 0, none⟩)), (32, v4), (33, .int .i64 (x3.1.length : Int)), (34, .int .i64 (k25 : Int))]) (fun ⟨s87, A92⟩ => fun w' => o86 = .fin s87 ∧ Hp w.heap.size A92 w' (obBd 36 5 b17 s87 :: obSMo (κ := ByteArray) (α := ByteArray) m11 x10.1 :: []) ∧ Tr False w.heap.size A34 w61 A92 w') ?_ ?_
              · have hr88 : Tr False w.heap.size A34 w61 A34 w61 := Tr.refl (Dw := False) hA
                refine C_cond rfl (fun hc94 => ?_) (fun hc94 => ?_)
                · rw [if_pos hc94] at ho86
                  refine C_region ?_
                  have h95 := El_know_field_2 h63
                  refine V_y (Y_fieldAddr Tryd.underlying38 rfl Tryd.sizeOf9 (by decide) rfl) rfl rfl rfl ?_
                  refine V_y (Y_load (El.str h95) Tryd.isAgg9 rfl) rfl rfl rfl ?_
                  obtain ⟨x96, hx96, ho86⟩ := Option.bind_eq_some_iff.1 ho86
                  refine V_call Tryd.call8 rfl rfl rfl rfl (strings_Builder_WriteString_c w61 hB hA s31 b17 x53.one hH hx96) ?_
                  rintro _ w97 ⟨A98, rfl, hH99, ht100⟩
                  replace h5 := Sl.tr (Dw := False) h5 ht100
                  replace h63 := El.tr (Dw := False) h63 ht100
                  replace h95 := El.tr (Dw := False) h95 ht100
                  replace hK := Tr.trans (Dw := False) hK ht100
                  replace hr24 := Tr.trans (Dw := False) hr24 ht100
                  replace hr47 := Tr.trans (Dw := False) hr47 ht100
                  replace hr69 := Tr.trans (Dw := False) hr69 ht100
                  replace hr88 := Tr.trans (Dw := False) hr88 ht100
                  replace hB := Nat.le_trans hB ht100.ex.size
                  replace hA := ht100.new
                  replace hH : Hp w.heap.size A98 w97 (obBd 36 5 b17 x96.2.2 :: obSMo (κ := ByteArray) (α := ByteArray) m11 x10.1 :: []) := hH99
                  obtain rfl := Option.some.inj ho86
                  refine V_end (fun a ha101 => ?_)
                  exact ⟨(x96.2.2, A98), ha101.sub ⟨rfl, rfl, rfl, rfl, rfl, trivial⟩, ⟨rfl, hH, hr88⟩⟩
                · rw [if_neg (nt hc94)] at ho86
                  refine C_seq ?_
                  refine C_region ?_
                  have h102 := El_know_field_1 h63
                  refine V_y (Y_fieldAddr Tryd.underlying38 rfl Tryd.sizeOf5 (by decide) rfl) rfl rfl rfl ?_
                  refine V_y (Y_load (El.u8 h102) Tryd.isAgg5 rfl) rfl rfl rfl ?_
                  refine V_y (Y_eql rfl rfl) rfl rfl rfl ?_
                  refine V_y (Y_assign rfl) rfl rfl rfl ?_
                  refine V_to (fun _ _ => rfl) ?_
                  obtain ⟨o103, ho103, ho86⟩ := Option.bind_eq_some_iff.1 ho86
                  refine C_cutG (ι := (ByteArray × (Nat → Prop))) (fun ⟨s104, A109⟩ => [(9, .map m11), (10, .pointer (some ⟨b17, 0, none⟩)), (32, v4), (33, .int .i64 (x3.1.length : Int)), (34, .int .i64 (k25 : Int))]) (fun ⟨s104, A109⟩ => fun w' => o103 = .fin s104 ∧ Hp w.heap.size A109 w' (obBd 36 5 b17 s104 :: obSMo (κ := ByteArray) (α := ByteArray) m11 x10.1 :: []) ∧ Tr False w.heap.size A34 w61 A109 w') ?_ ?_
                  · have hr105 : Tr False w.heap.size A34 w61 A34 w61 := Tr.refl (Dw := False) hA
                    refine C_cond rfl (fun hc111 => ?_) (fun hc111 => ?_)
                    · rw [if_pos hc111] at ho103
                      refine C_region ?_
                      have h112 := El_know_field_3 h63
                      refine V_y (Y_fieldAddr Tryd.underlying38 rfl Tryd.sizeOf9 (by decide) rfl) rfl rfl rfl ?_
                      refine V_y (Y_load (El.str h112) Tryd.isAgg9 rfl) rfl rfl rfl ?_
                      obtain ⟨x113, hx113, ho103⟩ := Option.bind_eq_some_iff.1 ho103
                      refine V_call Tryd.call8 rfl rfl rfl rfl (strings_Builder_WriteString_c w61 hB hA s31 b17 x53.two hH hx113) ?_
                      rintro _ w114 ⟨A115, rfl, hH116, ht117⟩
                      replace h5 := Sl.tr (Dw := False) h5 ht117
                      replace h63 := El.tr (Dw := False) h63 ht117
                      replace h112 := El.tr (Dw := False) h112 ht117
                      replace hK := Tr.trans (Dw := False) hK ht117
                      replace hr24 := Tr.trans (Dw := False) hr24 ht117
                      replace hr47 := Tr.trans (Dw := False) hr47 ht117
                      replace hr69 := Tr.trans (Dw := False) hr69 ht117
                      replace hr88 := Tr.trans (Dw := False) hr88 ht117
                      replace hr105 := Tr.trans (Dw := False) hr105 ht117
                      replace hB := Nat.le_trans hB ht117.ex.size
                      replace hA := ht117.new
                      replace hH : Hp w.heap.size A115 w114 (obBd 36 5 b17 x113.2.2 :: obSMo (κ := ByteArray) (α := ByteArray) m11 x10.1 :: []) := hH116
                      obtain rfl := Option.some.inj ho103
                      refine V_end (fun a ha118 => ?_)
                      exact ⟨(x113.2.2, A115), ha118.sub ⟨rfl, rfl, rfl, rfl, rfl, trivial⟩, ⟨rfl, hH, hr105⟩⟩
                    · rw [if_neg (nt hc111)] at ho103
                      refine C_seq ?_
                      refine C_region ?_
                      refine V_y (Y_move rfl) rfl rfl rfl ?_
                      refine V_y (Y_not rfl) rfl rfl rfl ?_
                      refine V_y (Y_assign rfl) rfl rfl rfl ?_
                      refine V_to (fun _ _ => rfl) ?_
                      refine C_cond rfl (fun hc119 => ?_) (fun hc119 => ?_)
                      · rw [if_pos hc119] at ho103
                        refine C_seq ?_
                        refine C_region ?_
                        refine V_y (Y_assign rfl) rfl rfl rfl ?_
                        refine V_y (Y_assign rfl) rfl rfl rfl ?_
                        refine V_to (fun _ _ => rfl) ?_
                        obtain rfl := Option.some.inj ho103
                        rw [Lp.andThen_rt] at ho86
                        obtain rfl := Option.some.inj ho86
                        rw [Lp.andThen_rt] at ho67
                        obtain rfl := Option.some.inj ho67
                        rw [Lp.andThen_rt] at ho45
                        obtain rfl := Option.some.inj ho45
                        rw [Lp.andThen_rt] at h37
                        obtain rfl := Option.some.inj h37
                        obtain rfl := (h38 : Lp.rt _ = _)
                        rw [Lp.andThen_rt] at hm
                        obtain rfl := Option.some.inj hm
                        refine C_ret ?_
                        try simp only [↓inBlock_ret, ↓then_ret]
                        exact retQ rfl (Res.two Tryd.results4 rfl rfl) ⟨rfl, hK.kp⟩
                      · rw [if_neg (nt hc119)] at ho103
                        refine C_region ?_
                        refine V_y (Y_move rfl) rfl rfl rfl ?_
                        obtain ⟨x120, hx120, ho103⟩ := Option.bind_eq_some_iff.1 ho103
                        refine V_call Tryd.call8 rfl rfl rfl rfl (strings_Builder_WriteString_c w61 hB hA s31 b17 ((mapGet x10.1 x53.name).getD ByteArray.empty) hH hx120) ?_
                        rintro _ w121 ⟨A122, rfl, hH123, ht124⟩
                        replace h5 := Sl.tr (Dw := False) h5 ht124
                        replace hK := Tr.trans (Dw := False) hK ht124
                        replace hr24 := Tr.trans (Dw := False) hr24 ht124
                        replace hr47 := Tr.trans (Dw := False) hr47 ht124
                        replace hr69 := Tr.trans (Dw := False) hr69 ht124
                        replace hr88 := Tr.trans (Dw := False) hr88 ht124
                        replace hr105 := Tr.trans (Dw := False) hr105 ht124
                        replace hB := Nat.le_trans hB ht124.ex.size
                        replace hA := ht124.new
                        replace hH : Hp w.heap.size A122 w121 (obBd 36 5 b17 x120.2.2 :: obSMo (κ := ByteArray) (α := ByteArray) m11 x10.1 :: []) := hH123
                        obtain rfl := Option.some.inj ho103
                        refine V_end (fun a ha125 => ?_)
                        exact ⟨(x120.2.2, A122), ha125.sub ⟨rfl, rfl, rfl, rfl, rfl, trivial⟩, ⟨rfl, hH, hr105⟩⟩
                  rintro ⟨s104, A109⟩ w106 ⟨rfl, hH110, hk107⟩ a ha108
                  rw [Lp.andThen_fin] at ho86
                  replace h5 := Sl.tr (Dw := False) h5 hk107
                  replace hK := Tr.trans (Dw := False) hK hk107
                  replace hr24 := Tr.trans (Dw := False) hr24 hk107
                  replace hr47 := Tr.trans (Dw := False) hr47 hk107
                  replace hr69 := Tr.trans (Dw := False) hr69 hk107
                  replace hr88 := Tr.trans (Dw := False) hr88 hk107
                  replace hB := Nat.le_trans hB hk107.ex.size
                  replace hA := hk107.new
                  replace hH : Hp w.heap.size A109 w106 (obBd 36 5 b17 s104 :: obSMo (κ := ByteArray) (α := ByteArray) m11 x10.1 :: []) := hH110
                  obtain rfl := Option.some.inj ho86
                  exact ⟨(s104, A109), ha108.sub ⟨rfl, rfl, rfl, rfl, rfl, trivial⟩, ⟨rfl, hH, hr88⟩⟩
              rintro ⟨s87, A92⟩ w89 ⟨rfl, hH93, hk90⟩ a ha91
              rw [Lp.andThen_fin] at ho67
              replace h5 := Sl.tr (Dw := False) h5 hk90
              replace hK := Tr.trans (Dw := False) hK hk90
              replace hr24 := Tr.trans (Dw := False) hr24 hk90
              replace hr47 := Tr.trans (Dw := False) hr47 hk90
              replace hr69 := Tr.trans (Dw := False) hr69 hk90
              replace hB := Nat.le_trans hB hk90.ex.size
              replace hA := hk90.new
              replace hH : Hp w.heap.size A92 w89 (obBd 36 5 b17 s87 :: obSMo (κ := ByteArray) (α := ByteArray) m11 x10.1 :: []) := hH93
              obtain rfl := Option.some.inj ho67
              exact ⟨(s87, A92), ha91.sub ⟨rfl, rfl, rfl, rfl, rfl, trivial⟩, ⟨rfl, hH, hr69⟩⟩
            rintro ⟨s68, A73⟩ w70 ⟨rfl, hH74, hk71⟩ a ha72
            rw [Lp.andThen_fin] at ho45
            replace h5 := Sl.tr (Dw := False) h5 hk71
            replace hK := Tr.trans (Dw := False) hK hk71
            replace hr24 := Tr.trans (Dw := False) hr24 hk71
            replace hr47 := Tr.trans (Dw := False) hr47 hk71
            replace hB := Nat.le_trans hB hk71.ex.size
            replace hA := hk71.new
            replace hH : Hp w.heap.size A73 w70 (obBd 36 5 b17 s68 :: obSMo (κ := ByteArray) (α := ByteArray) m11 x10.1 :: []) := hH74
            obtain rfl := Option.some.inj ho45
            exact ⟨(s68, A73), ha72.sub ⟨rfl, rfl, rfl, rfl, rfl, trivial⟩, ⟨rfl, hH, hr47⟩⟩
          rintro ⟨s46, A51⟩ w48 ⟨rfl, hH52, hk49⟩ a ha50
          rw [Lp.andThen_fin] at h37
          replace h5 := Sl.tr (Dw := False) h5 hk49
          replace hK := Tr.trans (Dw := False) hK hk49
          replace hr24 := Tr.trans (Dw := False) hr24 hk49
          replace hB := Nat.le_trans hB hk49.ex.size
          replace hA := hk49.new
          replace hH : Hp w.heap.size A51 w48 (obBd 36 5 b17 s46 :: obSMo (κ := ByteArray) (α := ByteArray) m11 x10.1 :: []) := hH52
          refine C_at (n := ⟨86, [], none⟩) (fun _ _ => rfl) ?_ ha50
          refine C_region ?_
          refine V_y (Y_addI rfl rfl) rfl rfl rfl ?_
          refine V_y (Y_move rfl) rfl rfl rfl ?_
          obtain rfl := Option.some.inj h37
          refine V_end (fun a ha129 => ?_)
          exact ⟨s46, hlt40, h38, ⟨A51, ha129.sub ⟨rfl, rfl, rfl, rfl, (congrArg (fun z => some (Value.int .i64 z)) (w64_succ hlt40 hn43)), trivial⟩, ⟨hH, hr24⟩⟩⟩
        · refine C_exit (fun a ha130 => ?_)
          exact ⟨(s31, A34), ha130.sub ⟨rfl, trivial⟩, ⟨(h41 (eq_of_dec hle39 hc44)).symm, hH, hr24⟩⟩
      rintro ⟨s23, A29⟩ w26 ⟨rfl, hH30, hk27⟩ a ha28
      rw [Lp.andThen_fin] at hm
      replace hK := Tr.trans (Dw := False) hK hk27
      replace hB := Nat.le_trans hB hk27.ex.size
      replace hA := hk27.new
      replace hH : Hp w.heap.size A29 w26 (obBd 36 5 b17 s23 :: obSMo (κ := ByteArray) (α := ByteArray) m11 x10.1 :: []) := hH30
      refine C_at (n := ⟨86, [], none⟩) (fun _ _ => rfl) ?_ ha28
      refine C_seq ?_
      refine C_seq ?_
      refine C_region ?_
      obtain ⟨x132, hx132, hm⟩ := Option.bind_eq_some_iff.1 hm
      refine V_call Tryd.call9 rfl rfl rfl rfl (strings_Builder_Len_c w26 hB hA s23 b17 hH hx132) ?_
      rintro _ w133 ⟨A134, rfl, hH135, ht136⟩
      replace hK := Tr.trans (Dw := False) hK ht136
      replace hB := Nat.le_trans hB ht136.ex.size
      replace hA := ht136.new
      replace hH : Hp w.heap.size A134 w133 (obBd 36 5 b17 s23 :: obSMo (κ := ByteArray) (α := ByteArray) m11 x10.1 :: []) := hH135
      refine V_y (Y_gtr rfl rfl) rfl rfl rfl ?_
      refine V_to (fun _ _ => rfl) ?_
      refine C_cond rfl (fun hc137 => ?_) (fun hc137 => ?_)
      · rw [if_pos hc137] at hm
        refine C_seq ?_
        refine C_region ?_
        refine V_y (Y_assign rfl) rfl rfl rfl ?_
        refine V_y (Y_assign rfl) rfl rfl rfl ?_
        refine V_to (fun _ _ => rfl) ?_
        obtain rfl := Option.some.inj hm
        refine C_ret ?_
        try simp only [↓inBlock_ret, ↓then_ret]
        exact retQ rfl (Res.two Tryd.results4 rfl rfl) ⟨rfl, hK.kp⟩
      · rw [if_neg (nt hc137)] at hm
        refine C_skip_to (fun _ _ => rfl) ?_
        refine C_seq ?_
        refine C_region ?_
        obtain ⟨x138, hx138, hm⟩ := Option.bind_eq_some_iff.1 hm
        refine V_call Tryd.call10 rfl rfl rfl rfl (strings_Builder_String_c w133 hB hA s23 b17 hH hx138) ?_
        rintro _ w139 ⟨A140, rfl, hH141, ht142⟩
        replace hK := Tr.trans (Dw := False) hK ht142
        replace hB := Nat.le_trans hB ht142.ex.size
        replace hA := ht142.new
        replace hH : Hp w.heap.size A140 w139 (obBd 36 5 b17 s23 :: obSMo (κ := ByteArray) (α := ByteArray) m11 x10.1 :: []) := hH141
        refine V_y (Y_assign rfl) rfl rfl rfl ?_
        refine V_y (Y_assign rfl) rfl rfl rfl ?_
        refine V_to (fun _ _ => rfl) ?_
        obtain rfl := Option.some.inj hm
        refine C_ret ?_
        try simp only [↓inBlock_ret, ↓then_ret]
        exact retQ rfl (Res.two Tryd.results4 rfl rfl) ⟨rfl, hK.kp⟩

end Go.Proofs.YtfdhiclmjfkflaaDoor.W
