/-
  Written by program (gen.py) from the IR of the dump: each function computes its model.
-/
import Derived.Test.YtmieekpjdhhjfaaDoorTemplateChecksW1
namespace Go.Proofs.YtmieekpjdhhjfaaDoor.W
open Go Go.RowKit Go.Pu Go.Gw Go.Proofs Go.Proofs.YtmieekpjdhhjfaaDoor.M
set_option linter.unusedVariables false
set_option linter.unusedSimpArgs false
variable {Dw : Prop}

set_option maxRecDepth 4000 in
set_option maxHeartbeats 4000000 in
theorem portref2_templateOf_c (w : World) {A : Nat → Prop} (hA : ∀ b, w.heap.size ≤ b → A b) (s : ByteArray) {r : ((List portref2_piece) × Int × Bool)} (hm : portref2_templateOf s = some r) : Ret Tryd.prog 12 #[.string s] w fun v w' => ∃ s0, v = .tuple #[s0, .int .i64 r.2.1, .bool r.2.2] ∧ Ownd 43 w w' s0 r.1 ∧ Kp Dw w w' := by
  unfold portref2_templateOf at hm
  refine enter Tryd.func12 rfl Tryd.ntmps12 rfl ?_
  have hA0 := hA
  have hB := Nat.le_refl w.heap.size
  have hK : Tr Dw w.heap.size A w A w := Tr.refl (Dw := Dw) hA
  have hH : Hp w.heap.size A w [] := Hp.nil
  refine C_seq ?_
  refine C_region ?_
  refine V_y (Y_assign rfl) rfl rfl rfl ?_
  refine V_y (Y_assign rfl) rfl rfl rfl ?_
  refine V_y (Y_assign rfl) rfl rfl rfl ?_
  refine V_to (fun _ _ => rfl) ?_
  refine C_seq ?_
  refine C_region ?_
  refine V_y (Y_assign rfl) rfl rfl rfl ?_
  refine V_to (fun _ _ => rfl) ?_
  refine C_seq ?_
  refine C_region ?_
  refine V_y (Y_assign rfl) rfl rfl rfl ?_
  refine V_to (fun _ _ => rfl) ?_
  refine C_seq ?_
  replace hH : Hp w.heap.size A w (obS (α := portref2_piece) 43 (.slice none 0 0) ([] : (List portref2_piece)) :: []) := Hp.addNil (α := portref2_piece) (e := 43) hH
  obtain ⟨o1, ho1, hm⟩ := Option.bind_eq_some_iff.1 hm
  refine C_cutG (ι := (((List portref2_piece) × Int × ByteArray) × Value × (Nat → Prop))) (fun ⟨s2, v8, A10⟩ => [(2, v8), (6, .string s2.2.2)]) (fun ⟨s2, v8, A10⟩ => fun w' => o1 = .fin s2 ∧ Hp w.heap.size A10 w' (obS (α := portref2_piece) 43 v8 s2.1 :: []) ∧ Tr Dw w.heap.size A w A10 w') ?_ ?_
  · refine C_block ?_
    refine C_while ho1 (fun s12 a w' => ∃ i : (Value × (Nat → Prop)), Has ⟨220, [], none⟩ a ([(0, .string s), (2, i.1), (5, .int .i64 s12.2.1), (6, .string s12.2.2)]) ∧ Hp w.heap.size i.2 w' (obS (α := portref2_piece) 43 i.1 s12.1 :: []) ∧ Tr Dw w.heap.size A w i.2 w') (fun a ha => ⟨(.slice none 0 0, A), ha.sub ⟨rfl, rfl, rfl, rfl, trivial⟩, ⟨hH, Tr.refl (Dw := Dw) hA⟩⟩) ?_
    rintro K s12 a w13 ⟨⟨v14, A16⟩, ha209, hH17, hr3⟩ K24
    refine C_of ?_ ha209
    replace hK := Tr.trans (Dw := Dw) hK hr3
    replace hB := Nat.le_trans hB hr3.ex.size
    replace hA := hr3.new
    replace hH : Hp w.heap.size A16 w13 (obS (α := portref2_piece) 43 v14 s12.1 :: []) := hH17
    obtain ⟨x18, h19, h20⟩ := K24
    refine C_seq ?_
    refine C_seq ?_
    refine C_region ?_
    refine V_y (Y_move rfl) rfl rfl rfl ?_
    refine V_y (Y_move rfl) rfl rfl rfl ?_
    refine V_y (Y_lenStr rfl Tryd.underlying9 rfl) rfl rfl rfl ?_
    refine V_y (Y_lss rfl rfl) rfl rfl rfl ?_
    refine V_to (fun _ _ => rfl) ?_
    refine C_cond rfl (fun hc25 => ?_) (fun hc25 => ?_)
    · rw [if_pos hc25] at h19
      refine C_skip_to (fun _ _ => rfl) ?_
      obtain ⟨o26, ho26, h19⟩ := Option.bind_eq_some_iff.1 h19
      refine C_cutG (ι := (((List portref2_piece) × Int × ByteArray) × Value × (Nat → Prop))) (fun ⟨s27, v29, A34⟩ => [(0, .string s), (2, v29), (5, .int .i64 s27.2.1), (6, .string s27.2.2)]) (fun ⟨s27, v29, A34⟩ => fun w' => o26 = .fin s27 ∧ Hp w.heap.size A34 w' (obS (α := portref2_piece) 43 v29 s27.1 :: []) ∧ Tr Dw w.heap.size A16 w13 A34 w') ?_ ?_
      · have hr28 : Tr Dw w.heap.size A16 w13 A16 w13 := Tr.refl (Dw := Dw) hA
        refine C_block ?_
        obtain ⟨o36, ho36, ho26⟩ := Option.bind_eq_some_iff.1 ho26
        refine C_cutG (ι := (((List portref2_piece) × Int × ByteArray) × Value × (Nat → Prop))) (fun ⟨s37, v39, A44⟩ => [(0, .string s), (2, v39), (5, .int .i64 s37.2.1), (6, .string s37.2.2)]) (fun ⟨s37, v39, A44⟩ => fun w' => o36 = .fin s37 ∧ Hp w.heap.size A44 w' (obS (α := portref2_piece) 43 v39 s37.1 :: []) ∧ Tr Dw w.heap.size A16 w13 A44 w') ?_ ?_
        · have hr38 : Tr Dw w.heap.size A16 w13 A16 w13 := Tr.refl (Dw := Dw) hA
          refine C_block ?_
          refine C_seq ?_
          refine C_region ?_
          refine V_y (Y_move rfl) rfl rfl rfl ?_
          refine V_y (Y_move rfl) rfl rfl rfl ?_
          obtain ⟨x46, hx46, ho36⟩ := Option.bind_eq_some_iff.1 ho36
          refine V_y (Y_indexS hx46 Tryd.underlying9 rfl rfl) rfl rfl rfl ?_
          refine V_y (Y_eql rfl rfl) rfl rfl rfl ?_
          refine V_y (Y_assign rfl) rfl rfl rfl ?_
          refine V_to (fun _ _ => rfl) ?_
          obtain ⟨o47, ho47, ho36⟩ := Option.bind_eq_some_iff.1 ho36
          refine C_cutG (ι := (((List portref2_piece) × Int × ByteArray) × Value × (Nat → Prop))) (fun ⟨s48, v50, A55⟩ => [(0, .string s), (2, v50), (5, .int .i64 s48.2.1), (6, .string s48.2.2)]) (fun ⟨s48, v50, A55⟩ => fun w' => o47 = .fin s48 ∧ Hp w.heap.size A55 w' (obS (α := portref2_piece) 43 v50 s48.1 :: []) ∧ Tr Dw w.heap.size A16 w13 A55 w') ?_ ?_
          · have hr49 : Tr Dw w.heap.size A16 w13 A16 w13 := Tr.refl (Dw := Dw) hA
            refine C_cond rfl (fun hc57 => ?_) (fun hc57 => ?_)
            · rw [if_pos hc57] at ho47
              refine C_seq ?_
              refine C_seq ?_
              refine C_region ?_
              refine V_y (Y_move rfl) rfl rfl rfl ?_
              refine V_y (Y_addI rfl rfl) rfl rfl rfl ?_
              refine V_y (Y_move rfl) rfl rfl rfl ?_
              refine V_y (Y_lenStr rfl Tryd.underlying9 rfl) rfl rfl rfl ?_
              refine V_y (Y_eql rfl rfl) rfl rfl rfl ?_
              refine V_y (Y_move rfl) rfl rfl rfl ?_
              obtain ⟨s59, hs59, ho47⟩ := Option.bind_eq_some_iff.1 ho47
              refine V_cut 13 (fun _ : Unit => [(0, .string s), (2, v14), (5, .int .i64 s12.2.1), (6, .string s12.2.2), (188, .bool s59)]) (fun _ w' => w13 = w') ?_ ?_
              · simp only [List.take, List.drop]
                rcases Bool.eq_false_or_eq_true ((w64 (s12.2.1 + 1)) == (s.size : Int)) with hc58 | hc58
                · rw [if_pos hc58] at hs59
                  refine V_gn rfl rfl rfl hc58 rfl rfl rfl ?_
                  refine V_gn rfl rfl rfl hc58 rfl rfl rfl ?_
                  refine V_gn rfl rfl rfl hc58 rfl rfl rfl ?_
                  refine V_gn rfl rfl rfl hc58 rfl rfl rfl ?_
                  refine V_gn rfl rfl rfl hc58 rfl rfl rfl ?_
                  refine V_gn rfl rfl rfl hc58 rfl rfl rfl ?_
                  refine V_gu rfl rfl rfl rfl rfl ?_
                  refine V_gu rfl rfl rfl rfl rfl ?_
                  refine V_gu rfl rfl rfl rfl rfl ?_
                  refine V_gu rfl rfl rfl rfl rfl ?_
                  refine V_gu rfl rfl rfl rfl rfl ?_
                  refine V_gn rfl rfl rfl hc58 rfl rfl rfl ?_
                  refine V_y (Y_pick_te rfl hc58 rfl) rfl rfl rfl ?_
                  obtain rfl := Option.some.inj hs59
                  exact V_end fun a ha => ⟨(), ha.sub ⟨rfl, rfl, rfl, rfl, rfl, trivial⟩, rfl⟩
                · rw [if_neg (nt hc58)] at hs59
                  refine V_ge rfl rfl rfl hc58 ?_
                  refine V_y (Y_move rfl) rfl rfl rfl ?_
                  refine V_ge rfl rfl rfl hc58 ?_
                  refine V_y (Y_move rfl) rfl rfl rfl ?_
                  refine V_ge rfl rfl rfl hc58 ?_
                  refine V_y (Y_addI rfl rfl) rfl rfl rfl ?_
                  refine V_ge rfl rfl rfl hc58 ?_
                  obtain ⟨x60, hx60, hs59⟩ := Option.bind_eq_some_iff.1 hs59
                  refine V_y (Y_indexS hx60 Tryd.underlying9 rfl rfl) rfl rfl rfl ?_
                  refine V_ge rfl rfl rfl hc58 ?_
                  refine V_y (Y_neq rfl rfl) rfl rfl rfl ?_
                  refine V_ge rfl rfl rfl hc58 ?_
                  refine V_y (Y_move rfl) rfl rfl rfl ?_
                  obtain ⟨s62, hs62, hs59⟩ := Option.bind_eq_some_iff.1 hs59
                  refine V_cut 6 (fun _ : Unit => [(0, .string s), (2, v14), (5, .int .i64 s12.2.1), (6, .string s12.2.2), (175, .bool ((w64 (s12.2.1 + 1)) == (s.size : Int))), (187, .bool s62)]) (fun _ w' => w13 = w') ?_ ?_
                  · simp only [List.take, List.drop]
                    rcases Bool.eq_false_or_eq_true ((x60.toNat : Int) != 123) with hc61 | hc61
                    · rw [if_pos hc61] at hs62
                      refine V_ge rfl rfl rfl hc61 ?_
                      refine V_y (Y_move rfl) rfl rfl rfl ?_
                      refine V_ge rfl rfl rfl hc61 ?_
                      refine V_y (Y_move rfl) rfl rfl rfl ?_
                      refine V_ge rfl rfl rfl hc61 ?_
                      refine V_y (Y_addI rfl rfl) rfl rfl rfl ?_
                      refine V_ge rfl rfl rfl hc61 ?_
                      refine V_y (Y_indexS hx60 Tryd.underlying9 rfl rfl) rfl rfl rfl ?_
                      refine V_ge rfl rfl rfl hc61 ?_
                      refine V_y (Y_neq rfl rfl) rfl rfl rfl ?_
                      refine V_ge rfl rfl rfl hc58 ?_
                      refine V_y (Y_pick_te rfl hc61 rfl) rfl rfl rfl ?_
                      obtain rfl := Option.some.inj hs62
                      exact V_end fun a ha => ⟨(), ha.sub ⟨rfl, rfl, rfl, rfl, rfl, rfl, trivial⟩, rfl⟩
                    · rw [if_neg (nt hc61)] at hs62
                      refine V_gn rfl rfl rfl hc61 rfl rfl rfl ?_
                      refine V_gn rfl rfl rfl hc61 rfl rfl rfl ?_
                      refine V_gn rfl rfl rfl hc61 rfl rfl rfl ?_
                      refine V_gn rfl rfl rfl hc61 rfl rfl rfl ?_
                      refine V_gn rfl rfl rfl hc61 rfl rfl rfl ?_
                      refine V_ge rfl rfl rfl hc58 ?_
                      refine V_y (Y_pick_fe rfl hc61 rfl) rfl rfl rfl ?_
                      obtain rfl := Option.some.inj hs62
                      exact V_end fun a ha => ⟨(), ha.sub ⟨rfl, rfl, rfl, rfl, rfl, rfl, trivial⟩, rfl⟩
                  simp only [List.take, List.drop]
                  rintro _ _ rfl
                  refine V_y (Y_pick_fe rfl hc58 rfl) rfl rfl rfl ?_
                  obtain rfl := Option.some.inj hs59
                  exact V_end fun a ha => ⟨(), ha.sub ⟨rfl, rfl, rfl, rfl, rfl, trivial⟩, rfl⟩
              simp only [List.take, List.drop]
              rintro _ _ rfl
              refine V_to (fun _ _ => rfl) ?_
              refine C_cond rfl (fun hc63 => ?_) (fun hc63 => ?_)
              · rw [if_pos hc63] at ho47
                refine C_seq ?_
                refine C_region ?_
                refine V_y (Y_move rfl) rfl rfl rfl ?_
                refine V_y (Y_addI rfl rfl) rfl rfl rfl ?_
                refine V_y (Y_assign rfl) rfl rfl rfl ?_
                refine V_y (Y_assign rfl) rfl rfl rfl ?_
                refine V_y (Y_assign rfl) rfl rfl rfl ?_
                refine V_to (fun _ _ => rfl) ?_
                obtain rfl := Option.some.inj ho47
                rw [Lp.andThen_rt] at ho36
                obtain rfl := Option.some.inj ho36
                rw [Lp.andThen_rt] at ho26
                obtain rfl := Option.some.inj ho26
                rw [Lp.andThen_rt] at h19
                obtain rfl := Option.some.inj h19
                obtain rfl := (h20 : Lp.rt _ = _)
                rw [Lp.andThen_rt] at hm
                obtain rfl := Option.some.inj hm
                replace hH : Hp w.heap.size A16 w13 (obS (α := portref2_piece) 43 (.slice none 0 0) ([] : (List portref2_piece)) :: obS (α := portref2_piece) 43 v14 s12.1 :: []) := Hp.addNil (α := portref2_piece) (e := 43) hH
                refine C_ret ?_
                try simp only [↓inBlock_ret, ↓then_ret]
                exact retQ rfl (Res.three Tryd.results12 rfl rfl rfl) ⟨.slice none 0 0, rfl, (Hp.ownd hH (i := 0) rfl), hK.kp⟩
              · rw [if_neg (nt hc63)] at ho47
                refine C_skip_to (fun _ _ => rfl) ?_
                refine C_seq ?_
                refine C_region ?_
                refine V_y (Y_move rfl) rfl rfl rfl ?_
                refine V_y (Y_move rfl) rfl rfl rfl ?_
                refine V_y (Y_move rfl) rfl rfl rfl ?_
                refine V_y (Y_addI rfl rfl) rfl rfl rfl ?_
                refine V_y (Y_move rfl) rfl rfl rfl ?_
                refine V_y (Y_addI rfl rfl) rfl rfl rfl ?_
                obtain ⟨x64, hx64, ho47⟩ := Option.bind_eq_some_iff.1 ho47
                refine V_y (Y_sliceSLH hx64 Tryd.underlying9 rfl rfl rfl) rfl rfl rfl ?_
                obtain ⟨x65, hx65, ho47⟩ := Option.bind_eq_some_iff.1 ho47
                refine V_y (Y_sadd hx65 rfl rfl) rfl rfl rfl ?_
                refine V_y (Y_assign rfl) rfl rfl rfl ?_
                refine V_to (fun _ _ => rfl) ?_
                refine C_region ?_
                refine V_y (Y_move rfl) rfl rfl rfl ?_
                refine V_y (Y_addI rfl rfl) rfl rfl rfl ?_
                refine V_y (Y_assign rfl) rfl rfl rfl ?_
                obtain rfl := Option.some.inj ho47
                refine V_end (fun a ha66 => ?_)
                exact ⟨((s12.1, w64 (s12.2.1 + 2), x65), v14, A16), ha66.sub ⟨rfl, rfl, rfl, rfl, trivial⟩, ⟨rfl, hH, hr49⟩⟩
            · rw [if_neg (nt hc57)] at ho47
              refine C_seq ?_
              refine C_region ?_
              refine V_y (Y_move rfl) rfl rfl rfl ?_
              refine V_y (Y_move rfl) rfl rfl rfl ?_
              refine V_y (Y_indexS hx46 Tryd.underlying9 rfl rfl) rfl rfl rfl ?_
              refine V_y (Y_neq rfl rfl) rfl rfl rfl ?_
              refine V_y (Y_assign rfl) rfl rfl rfl ?_
              refine V_to (fun _ _ => rfl) ?_
              obtain ⟨o67, ho67, ho47⟩ := Option.bind_eq_some_iff.1 ho47
              refine C_cutG (ι := (((List portref2_piece) × Int × ByteArray) × Value × (Nat → Prop))) (fun ⟨s68, v70, A75⟩ => [(0, .string s), (2, v70), (5, .int .i64 s68.2.1), (6, .string s68.2.2)]) (fun ⟨s68, v70, A75⟩ => fun w' => o67 = .fin s68 ∧ Hp w.heap.size A75 w' (obS (α := portref2_piece) 43 v70 s68.1 :: []) ∧ Tr Dw w.heap.size A16 w13 A75 w') ?_ ?_
              · have hr69 : Tr Dw w.heap.size A16 w13 A16 w13 := Tr.refl (Dw := Dw) hA
                refine C_cond rfl (fun hc77 => ?_) (fun hc77 => ?_)
                · rw [if_pos hc77] at ho67
                  refine C_seq ?_
                  refine C_region ?_
                  refine V_y (Y_move rfl) rfl rfl rfl ?_
                  refine V_y (Y_move rfl) rfl rfl rfl ?_
                  refine V_y (Y_move rfl) rfl rfl rfl ?_
                  refine V_y (Y_move rfl) rfl rfl rfl ?_
                  refine V_y (Y_addI rfl rfl) rfl rfl rfl ?_
                  obtain ⟨x78, hx78, ho67⟩ := Option.bind_eq_some_iff.1 ho67
                  refine V_y (Y_sliceSLH hx78 Tryd.underlying9 rfl rfl rfl) rfl rfl rfl ?_
                  obtain ⟨x79, hx79, ho67⟩ := Option.bind_eq_some_iff.1 ho67
                  refine V_y (Y_sadd hx79 rfl rfl) rfl rfl rfl ?_
                  refine V_y (Y_assign rfl) rfl rfl rfl ?_
                  refine V_to (fun _ _ => rfl) ?_
                  refine C_region ?_
                  refine V_y (Y_move rfl) rfl rfl rfl ?_
                  refine V_y (Y_addI rfl rfl) rfl rfl rfl ?_
                  refine V_y (Y_assign rfl) rfl rfl rfl ?_
                  obtain rfl := Option.some.inj ho67
                  refine V_end (fun a ha80 => ?_)
                  exact ⟨((s12.1, w64 (s12.2.1 + 1), x79), v14, A16), ha80.sub ⟨rfl, rfl, rfl, rfl, trivial⟩, ⟨rfl, hH, hr69⟩⟩
                · rw [if_neg (nt hc77)] at ho67
                  refine C_seq ?_
                  refine C_seq ?_
                  refine C_region ?_
                  refine V_y (Y_move rfl) rfl rfl rfl ?_
                  refine V_y (Y_addI rfl rfl) rfl rfl rfl ?_
                  refine V_y (Y_move rfl) rfl rfl rfl ?_
                  refine V_y (Y_lenStr rfl Tryd.underlying9 rfl) rfl rfl rfl ?_
                  refine V_y (Y_eql rfl rfl) rfl rfl rfl ?_
                  refine V_y (Y_move rfl) rfl rfl rfl ?_
                  obtain ⟨s82, hs82, ho67⟩ := Option.bind_eq_some_iff.1 ho67
                  refine V_cut 6 (fun _ : Unit => [(0, .string s), (2, v14), (5, .int .i64 s12.2.1), (6, .string s12.2.2), (24, .bool s82)]) (fun _ w' => w13 = w') ?_ ?_
                  · simp only [List.take, List.drop]
                    rcases Bool.eq_false_or_eq_true ((w64 (s12.2.1 + 1)) == (s.size : Int)) with hc81 | hc81
                    · rw [if_pos hc81] at hs82
                      refine V_gn rfl rfl rfl hc81 rfl rfl rfl ?_
                      refine V_gn rfl rfl rfl hc81 rfl rfl rfl ?_
                      refine V_gn rfl rfl rfl hc81 rfl rfl rfl ?_
                      refine V_gn rfl rfl rfl hc81 rfl rfl rfl ?_
                      refine V_gn rfl rfl rfl hc81 rfl rfl rfl ?_
                      refine V_y (Y_pick_te rfl hc81 rfl) rfl rfl rfl ?_
                      obtain rfl := Option.some.inj hs82
                      exact V_end fun a ha => ⟨(), ha.sub ⟨rfl, rfl, rfl, rfl, rfl, trivial⟩, rfl⟩
                    · rw [if_neg (nt hc81)] at hs82
                      refine V_ge rfl rfl rfl hc81 ?_
                      refine V_y (Y_move rfl) rfl rfl rfl ?_
                      refine V_ge rfl rfl rfl hc81 ?_
                      refine V_y (Y_move rfl) rfl rfl rfl ?_
                      refine V_ge rfl rfl rfl hc81 ?_
                      refine V_y (Y_addI rfl rfl) rfl rfl rfl ?_
                      refine V_ge rfl rfl rfl hc81 ?_
                      obtain ⟨x83, hx83, hs82⟩ := Option.bind_eq_some_iff.1 hs82
                      refine V_y (Y_indexS hx83 Tryd.underlying9 rfl rfl) rfl rfl rfl ?_
                      refine V_ge rfl rfl rfl hc81 ?_
                      refine V_y (Y_neq rfl rfl) rfl rfl rfl ?_
                      refine V_y (Y_pick_fe rfl hc81 rfl) rfl rfl rfl ?_
                      obtain rfl := Option.some.inj hs82
                      exact V_end fun a ha => ⟨(), ha.sub ⟨rfl, rfl, rfl, rfl, rfl, trivial⟩, rfl⟩
                  simp only [List.take, List.drop]
                  rintro _ _ rfl
                  refine V_to (fun _ _ => rfl) ?_
                  refine C_cond rfl (fun hc84 => ?_) (fun hc84 => ?_)
                  · rw [if_pos hc84] at ho67
                    refine C_seq ?_
                    refine C_region ?_
                    refine V_y (Y_move rfl) rfl rfl rfl ?_
                    refine V_y (Y_addI rfl rfl) rfl rfl rfl ?_
                    refine V_y (Y_assign rfl) rfl rfl rfl ?_
                    refine V_y (Y_assign rfl) rfl rfl rfl ?_
                    refine V_y (Y_assign rfl) rfl rfl rfl ?_
                    refine V_to (fun _ _ => rfl) ?_
                    obtain rfl := Option.some.inj ho67
                    rw [Lp.andThen_rt] at ho47
                    obtain rfl := Option.some.inj ho47
                    rw [Lp.andThen_rt] at ho36
                    obtain rfl := Option.some.inj ho36
                    rw [Lp.andThen_rt] at ho26
                    obtain rfl := Option.some.inj ho26
                    rw [Lp.andThen_rt] at h19
                    obtain rfl := Option.some.inj h19
                    obtain rfl := (h20 : Lp.rt _ = _)
                    rw [Lp.andThen_rt] at hm
                    obtain rfl := Option.some.inj hm
                    replace hH : Hp w.heap.size A16 w13 (obS (α := portref2_piece) 43 (.slice none 0 0) ([] : (List portref2_piece)) :: obS (α := portref2_piece) 43 v14 s12.1 :: []) := Hp.addNil (α := portref2_piece) (e := 43) hH
                    refine C_ret ?_
                    try simp only [↓inBlock_ret, ↓then_ret]
                    exact retQ rfl (Res.three Tryd.results12 rfl rfl rfl) ⟨.slice none 0 0, rfl, (Hp.ownd hH (i := 0) rfl), hK.kp⟩
                  · rw [if_neg (nt hc84)] at ho67
                    refine C_skip_to (fun _ _ => rfl) ?_
                    refine C_seq ?_
                    refine C_region ?_
                    refine V_y (Y_move rfl) rfl rfl rfl ?_
                    refine V_y (Y_addI rfl rfl) rfl rfl rfl ?_
                    refine V_y (Y_assign rfl) rfl rfl rfl ?_
                    refine V_to (fun _ _ => rfl) ?_
                    refine C_seq ?_
                    obtain ⟨o85, ho85, ho67⟩ := Option.bind_eq_some_iff.1 ho67
                    refine C_cutG (ι := Int) (fun (s86 : Int) => [(0, .string s), (2, v14), (5, .int .i64 s12.2.1), (6, .string s12.2.2), (7, .int .i64 s86)]) (fun (s86 : Int) => fun w' => o85 = .fin s86 ∧ w13 = w') ?_ ?_
                    · refine C_block ?_
                      refine C_while ho85 (fun s92 a w' => ∃ i : Unit, Has ⟨220, [], none⟩ a ([(0, .string s), (2, v14), (5, .int .i64 s12.2.1), (6, .string s12.2.2), (7, .int .i64 s92)]) ∧ w13 = w') (fun a ha => ⟨(), ha.sub ⟨rfl, rfl, rfl, rfl, rfl, trivial⟩, rfl⟩) ?_
                      rintro K s92 a _ ⟨_, ha117, rfl⟩ K100
                      refine C_of ?_ ha117
                      obtain ⟨x94, h95, h96⟩ := K100
                      refine C_seq ?_
                      refine C_seq ?_
                      refine C_region ?_
                      refine V_y (Y_move rfl) rfl rfl rfl ?_
                      refine V_y (Y_move rfl) rfl rfl rfl ?_
                      refine V_y (Y_lenStr rfl Tryd.underlying9 rfl) rfl rfl rfl ?_
                      refine V_y (Y_lss rfl rfl) rfl rfl rfl ?_
                      refine V_y (Y_move rfl) rfl rfl rfl ?_
                      refine V_cut 6 (fun _ : Unit => [(0, .string s), (2, v14), (5, .int .i64 s12.2.1), (6, .string s12.2.2), (7, .int .i64 s92), (39, .bool ((decide (s92 < (s.size : Int))) && (decide ((w64 ((w64 (s92 - s12.2.1)) - 2)) < 20))))]) (fun _ w' => w13 = w') ?_ ?_
                      · simp only [List.take, List.drop]
                        rcases Bool.eq_false_or_eq_true (decide (s92 < (s.size : Int))) with hc101 | hc101
                        · refine V_ge rfl rfl rfl hc101 ?_
                          refine V_y (Y_move rfl) rfl rfl rfl ?_
                          refine V_ge rfl rfl rfl hc101 ?_
                          refine V_y (Y_move rfl) rfl rfl rfl ?_
                          refine V_ge rfl rfl rfl hc101 ?_
                          refine V_y (Y_subI rfl rfl) rfl rfl rfl ?_
                          refine V_ge rfl rfl rfl hc101 ?_
                          refine V_y (Y_subI rfl rfl) rfl rfl rfl ?_
                          refine V_ge rfl rfl rfl hc101 ?_
                          refine V_y (Y_lss rfl rfl) rfl rfl rfl ?_
                          refine V_y (Y_pick_te rfl hc101 rfl) rfl rfl rfl ?_
                          exact V_end fun a ha => ⟨(), ha.sub ⟨rfl, rfl, rfl, rfl, rfl, (by rw [hc101]; rfl), trivial⟩, rfl⟩
                        · refine V_gn rfl rfl rfl hc101 rfl rfl rfl ?_
                          refine V_gn rfl rfl rfl hc101 rfl rfl rfl ?_
                          refine V_gn rfl rfl rfl hc101 rfl rfl rfl ?_
                          refine V_gn rfl rfl rfl hc101 rfl rfl rfl ?_
                          refine V_gn rfl rfl rfl hc101 rfl rfl rfl ?_
                          refine V_y (Y_pick_fe rfl hc101 rfl) rfl rfl rfl ?_
                          exact V_end fun a ha => ⟨(), ha.sub ⟨rfl, rfl, rfl, rfl, rfl, (by rw [hc101]; rfl), trivial⟩, rfl⟩
                      simp only [List.take, List.drop]
                      rintro _ _ rfl
                      refine V_y (Y_move rfl) rfl rfl rfl ?_
                      obtain ⟨s104, hs104, h95⟩ := Option.bind_eq_some_iff.1 h95
                      refine V_cut 29 (fun _ : Unit => [(0, .string s), (2, v14), (5, .int .i64 s12.2.1), (6, .string s12.2.2), (7, .int .i64 s92), (69, .bool s104)]) (fun _ w' => w13 = w') ?_ ?_
                      · simp only [List.take, List.drop]
                        rcases Bool.eq_false_or_eq_true (((decide (s92 < (s.size : Int))) && (decide ((w64 ((w64 (s92 - s12.2.1)) - 2)) < 20)))) with hc103 | hc103
                        · rw [if_pos hc103] at hs104
                          refine V_ge rfl rfl rfl hc103 ?_
                          refine V_y (Y_move rfl) rfl rfl rfl ?_
                          refine V_ge rfl rfl rfl hc103 ?_
                          refine V_y (Y_move rfl) rfl rfl rfl ?_
                          refine V_ge rfl rfl rfl hc103 ?_
                          obtain ⟨x105, hx105, hs104⟩ := Option.bind_eq_some_iff.1 hs104
                          refine V_y (Y_indexS hx105 Tryd.underlying9 rfl rfl) rfl rfl rfl ?_
                          refine V_ge rfl rfl rfl hc103 ?_
                          refine V_y (Y_geq rfl rfl) rfl rfl rfl ?_
                          refine V_ge rfl rfl rfl hc103 ?_
                          refine V_y (Y_move rfl) rfl rfl rfl ?_
                          obtain ⟨s107, hs107, hs104⟩ := Option.bind_eq_some_iff.1 hs104
                          refine V_cut 5 (fun _ : Unit => [(0, .string s), (2, v14), (5, .int .i64 s12.2.1), (6, .string s12.2.2), (7, .int .i64 s92), (40, .bool ((decide (s92 < (s.size : Int))) && (decide ((w64 ((w64 (s92 - s12.2.1)) - 2)) < 20)))), (50, .bool s107)]) (fun _ w' => w13 = w') ?_ ?_
                          · simp only [List.take, List.drop]
                            rcases Bool.eq_false_or_eq_true (decide ((97 : Int) ≤ (x105.toNat : Int))) with hc106 | hc106
                            · rw [if_pos hc106] at hs107
                              refine V_ge rfl rfl rfl hc106 ?_
                              refine V_y (Y_move rfl) rfl rfl rfl ?_
                              refine V_ge rfl rfl rfl hc106 ?_
                              refine V_y (Y_move rfl) rfl rfl rfl ?_
                              refine V_ge rfl rfl rfl hc106 ?_
                              refine V_y (Y_indexS hx105 Tryd.underlying9 rfl rfl) rfl rfl rfl ?_
                              refine V_ge rfl rfl rfl hc106 ?_
                              refine V_y (Y_leq rfl rfl) rfl rfl rfl ?_
                              refine V_ge rfl rfl rfl hc103 ?_
                              refine V_y (Y_pick_te rfl hc106 rfl) rfl rfl rfl ?_
                              obtain rfl := Option.some.inj hs107
                              exact V_end fun a ha => ⟨(), ha.sub ⟨rfl, rfl, rfl, rfl, rfl, rfl, rfl, trivial⟩, rfl⟩
                            · rw [if_neg (nt hc106)] at hs107
                              refine V_gn rfl rfl rfl hc106 rfl rfl rfl ?_
                              refine V_gn rfl rfl rfl hc106 rfl rfl rfl ?_
                              refine V_gn rfl rfl rfl hc106 rfl rfl rfl ?_
                              refine V_gn rfl rfl rfl hc106 rfl rfl rfl ?_
                              refine V_ge rfl rfl rfl hc103 ?_
                              refine V_y (Y_pick_fe rfl hc106 rfl) rfl rfl rfl ?_
                              obtain rfl := Option.some.inj hs107
                              exact V_end fun a ha => ⟨(), ha.sub ⟨rfl, rfl, rfl, rfl, rfl, rfl, rfl, trivial⟩, rfl⟩
                          simp only [List.take, List.drop]
                          rintro _ _ rfl
                          refine V_ge rfl rfl rfl hc103 ?_
                          refine V_y (Y_move rfl) rfl rfl rfl ?_
                          obtain ⟨s109, hs109, hs104⟩ := Option.bind_eq_some_iff.1 hs104
                          refine V_cut 11 (fun _ : Unit => [(0, .string s), (2, v14), (5, .int .i64 s12.2.1), (6, .string s12.2.2), (7, .int .i64 s92), (40, .bool ((decide (s92 < (s.size : Int))) && (decide ((w64 ((w64 (s92 - s12.2.1)) - 2)) < 20)))), (62, .bool s109)]) (fun _ w' => w13 = w') ?_ ?_
                          · simp only [List.take, List.drop]
                            rcases Bool.eq_false_or_eq_true (s107) with hc108 | hc108
                            · rw [if_pos hc108] at hs109
                              refine V_gn rfl rfl rfl hc108 rfl rfl rfl ?_
                              refine V_gn rfl rfl rfl hc108 rfl rfl rfl ?_
                              refine V_gn rfl rfl rfl hc108 rfl rfl rfl ?_
                              refine V_gn rfl rfl rfl hc108 rfl rfl rfl ?_
                              refine V_gn rfl rfl rfl hc108 rfl rfl rfl ?_
                              refine V_gu rfl rfl rfl rfl rfl ?_
                              refine V_gu rfl rfl rfl rfl rfl ?_
                              refine V_gu rfl rfl rfl rfl rfl ?_
                              refine V_gu rfl rfl rfl rfl rfl ?_
                              refine V_gn rfl rfl rfl hc108 rfl rfl rfl ?_
                              refine V_ge rfl rfl rfl hc103 ?_
                              refine V_y (Y_pick_te rfl hc108 rfl) rfl rfl rfl ?_
                              obtain rfl := Option.some.inj hs109
                              exact V_end fun a ha => ⟨(), ha.sub ⟨rfl, rfl, rfl, rfl, rfl, rfl, rfl, trivial⟩, rfl⟩
                            · rw [if_neg (nt hc108)] at hs109
                              refine V_ge rfl rfl rfl hc108 ?_
                              refine V_y (Y_move rfl) rfl rfl rfl ?_
                              refine V_ge rfl rfl rfl hc108 ?_
                              refine V_y (Y_move rfl) rfl rfl rfl ?_
                              refine V_ge rfl rfl rfl hc108 ?_
                              refine V_y (Y_indexS hx105 Tryd.underlying9 rfl rfl) rfl rfl rfl ?_
                              refine V_ge rfl rfl rfl hc108 ?_
                              refine V_y (Y_geq rfl rfl) rfl rfl rfl ?_
                              refine V_ge rfl rfl rfl hc108 ?_
                              refine V_y (Y_move rfl) rfl rfl rfl ?_
                              obtain ⟨s111, hs111, hs109⟩ := Option.bind_eq_some_iff.1 hs109
                              refine V_cut 5 (fun _ : Unit => [(0, .string s), (2, v14), (5, .int .i64 s12.2.1), (6, .string s12.2.2), (7, .int .i64 s92), (40, .bool ((decide (s92 < (s.size : Int))) && (decide ((w64 ((w64 (s92 - s12.2.1)) - 2)) < 20)))), (51, .bool s107), (61, .bool s111)]) (fun _ w' => w13 = w') ?_ ?_
                              · simp only [List.take, List.drop]
                                rcases Bool.eq_false_or_eq_true (decide ((48 : Int) ≤ (x105.toNat : Int))) with hc110 | hc110
                                · rw [if_pos hc110] at hs111
                                  refine V_ge rfl rfl rfl hc110 ?_
                                  refine V_y (Y_move rfl) rfl rfl rfl ?_
                                  refine V_ge rfl rfl rfl hc110 ?_
                                  refine V_y (Y_move rfl) rfl rfl rfl ?_
                                  refine V_ge rfl rfl rfl hc110 ?_
                                  refine V_y (Y_indexS hx105 Tryd.underlying9 rfl rfl) rfl rfl rfl ?_
                                  refine V_ge rfl rfl rfl hc110 ?_
                                  refine V_y (Y_leq rfl rfl) rfl rfl rfl ?_
                                  refine V_ge rfl rfl rfl hc108 ?_
                                  refine V_y (Y_pick_te rfl hc110 rfl) rfl rfl rfl ?_
                                  obtain rfl := Option.some.inj hs111
                                  exact V_end fun a ha => ⟨(), ha.sub ⟨rfl, rfl, rfl, rfl, rfl, rfl, rfl, rfl, trivial⟩, rfl⟩
                                · rw [if_neg (nt hc110)] at hs111
                                  refine V_gn rfl rfl rfl hc110 rfl rfl rfl ?_
                                  refine V_gn rfl rfl rfl hc110 rfl rfl rfl ?_
                                  refine V_gn rfl rfl rfl hc110 rfl rfl rfl ?_
                                  refine V_gn rfl rfl rfl hc110 rfl rfl rfl ?_
                                  refine V_ge rfl rfl rfl hc108 ?_
                                  refine V_y (Y_pick_fe rfl hc110 rfl) rfl rfl rfl ?_
                                  obtain rfl := Option.some.inj hs111
                                  exact V_end fun a ha => ⟨(), ha.sub ⟨rfl, rfl, rfl, rfl, rfl, rfl, rfl, rfl, trivial⟩, rfl⟩
                              simp only [List.take, List.drop]
                              rintro _ _ rfl
                              refine V_ge rfl rfl rfl hc103 ?_
                              refine V_y (Y_pick_fe rfl hc108 rfl) rfl rfl rfl ?_
                              obtain rfl := Option.some.inj hs109
                              exact V_end fun a ha => ⟨(), ha.sub ⟨rfl, rfl, rfl, rfl, rfl, rfl, rfl, trivial⟩, rfl⟩
                          simp only [List.take, List.drop]
                          rintro _ _ rfl
                          refine V_ge rfl rfl rfl hc103 ?_
                          refine V_y (Y_move rfl) rfl rfl rfl ?_
                          obtain ⟨s113, hs113, hs104⟩ := Option.bind_eq_some_iff.1 hs104
                          refine V_cut 5 (fun _ : Unit => [(0, .string s), (2, v14), (5, .int .i64 s12.2.1), (6, .string s12.2.2), (7, .int .i64 s92), (40, .bool ((decide (s92 < (s.size : Int))) && (decide ((w64 ((w64 (s92 - s12.2.1)) - 2)) < 20)))), (68, .bool s113)]) (fun _ w' => w13 = w') ?_ ?_
                          · simp only [List.take, List.drop]
                            rcases Bool.eq_false_or_eq_true (s109) with hc112 | hc112
                            · rw [if_pos hc112] at hs113
                              refine V_gn rfl rfl rfl hc112 rfl rfl rfl ?_
                              refine V_gn rfl rfl rfl hc112 rfl rfl rfl ?_
                              refine V_gn rfl rfl rfl hc112 rfl rfl rfl ?_
                              refine V_gn rfl rfl rfl hc112 rfl rfl rfl ?_
                              refine V_ge rfl rfl rfl hc103 ?_
                              refine V_y (Y_pick_te rfl hc112 rfl) rfl rfl rfl ?_
                              obtain rfl := Option.some.inj hs113
                              exact V_end fun a ha => ⟨(), ha.sub ⟨rfl, rfl, rfl, rfl, rfl, rfl, rfl, trivial⟩, rfl⟩
                            · rw [if_neg (nt hc112)] at hs113
                              refine V_ge rfl rfl rfl hc112 ?_
                              refine V_y (Y_move rfl) rfl rfl rfl ?_
                              refine V_ge rfl rfl rfl hc112 ?_
                              refine V_y (Y_move rfl) rfl rfl rfl ?_
                              refine V_ge rfl rfl rfl hc112 ?_
                              refine V_y (Y_indexS hx105 Tryd.underlying9 rfl rfl) rfl rfl rfl ?_
                              refine V_ge rfl rfl rfl hc112 ?_
                              refine V_y (Y_eql rfl rfl) rfl rfl rfl ?_
                              refine V_ge rfl rfl rfl hc103 ?_
                              refine V_y (Y_pick_fe rfl hc112 rfl) rfl rfl rfl ?_
                              obtain rfl := Option.some.inj hs113
                              exact V_end fun a ha => ⟨(), ha.sub ⟨rfl, rfl, rfl, rfl, rfl, rfl, rfl, trivial⟩, rfl⟩
                          simp only [List.take, List.drop]
                          rintro _ _ rfl
                          refine V_y (Y_pick_te rfl hc103 rfl) rfl rfl rfl ?_
                          obtain rfl := Option.some.inj hs104
                          exact V_end fun a ha => ⟨(), ha.sub ⟨rfl, rfl, rfl, rfl, rfl, rfl, trivial⟩, rfl⟩
                        · rw [if_neg (nt hc103)] at hs104
                          refine V_gn rfl rfl rfl hc103 rfl rfl rfl ?_
                          refine V_gn rfl rfl rfl hc103 rfl rfl rfl ?_
                          refine V_gn rfl rfl rfl hc103 rfl rfl rfl ?_
                          refine V_gn rfl rfl rfl hc103 rfl rfl rfl ?_
                          refine V_gn rfl rfl rfl hc103 rfl rfl rfl ?_
                          refine V_gu rfl rfl rfl rfl rfl ?_
                          refine V_gu rfl rfl rfl rfl rfl ?_
                          refine V_gu rfl rfl rfl rfl rfl ?_
                          refine V_gu rfl rfl rfl rfl rfl ?_
                          refine V_gn rfl rfl rfl hc103 rfl rfl rfl ?_
                          refine V_gn rfl rfl rfl hc103 rfl rfl rfl ?_
                          refine V_gu rfl rfl rfl rfl rfl ?_
                          refine V_gu rfl rfl rfl rfl rfl ?_
                          refine V_gu rfl rfl rfl rfl rfl ?_
                          refine V_gu rfl rfl rfl rfl rfl ?_
                          refine V_gu rfl rfl rfl rfl rfl ?_
                          refine V_gu rfl rfl rfl rfl rfl ?_
                          refine V_gu rfl rfl rfl rfl rfl ?_
                          refine V_gu rfl rfl rfl rfl rfl ?_
                          refine V_gu rfl rfl rfl rfl rfl ?_
                          refine V_gu rfl rfl rfl rfl rfl ?_
                          refine V_gn rfl rfl rfl hc103 rfl rfl rfl ?_
                          refine V_gn rfl rfl rfl hc103 rfl rfl rfl ?_
                          refine V_gu rfl rfl rfl rfl rfl ?_
                          refine V_gu rfl rfl rfl rfl rfl ?_
                          refine V_gu rfl rfl rfl rfl rfl ?_
                          refine V_gu rfl rfl rfl rfl rfl ?_
                          refine V_gn rfl rfl rfl hc103 rfl rfl rfl ?_
                          refine V_y (Y_pick_fe rfl hc103 rfl) rfl rfl rfl ?_
                          obtain rfl := Option.some.inj hs104
                          exact V_end fun a ha => ⟨(), ha.sub ⟨rfl, rfl, rfl, rfl, rfl, rfl, trivial⟩, rfl⟩
                      simp only [List.take, List.drop]
                      rintro _ _ rfl
                      refine V_to (fun _ _ => rfl) ?_
                      refine C_cond rfl (fun hc114 => ?_) (fun hc114 => ?_)
                      · rw [if_pos hc114] at h95
                        refine C_skip_to (fun _ _ => rfl) ?_
                        refine C_block ?_
                        refine C_region ?_
                        refine V_y (Y_move rfl) rfl rfl rfl ?_
                        refine V_y (Y_addI rfl rfl) rfl rfl rfl ?_
                        refine V_y (Y_assign rfl) rfl rfl rfl ?_
                        obtain rfl := Option.some.inj h95
                        refine V_end (fun a ha115 => ?_)
                        exact ⟨w64 (s92 + 1), h96, ⟨(), ha115.sub ⟨rfl, rfl, rfl, rfl, rfl, trivial⟩, rfl⟩⟩
                      · rw [if_neg (nt hc114)] at h95
                        obtain rfl := Option.some.inj h95
                        refine C_exit (fun a ha116 => ?_)
                        exact ⟨s92, ha116.sub ⟨rfl, rfl, rfl, rfl, rfl, trivial⟩, ⟨h96.symm, rfl⟩⟩
                    rintro s86 _ ⟨rfl, rfl⟩ a ha91
                    rw [Lp.andThen_fin] at ho67
                    refine C_at (n := ⟨220, [], none⟩) (fun _ _ => rfl) ?_ ha91
                    refine C_seq ?_
                    refine C_seq ?_
                    refine C_region ?_
                    refine V_y (Y_move rfl) rfl rfl rfl ?_
                    refine V_y (Y_move rfl) rfl rfl rfl ?_
                    refine V_y (Y_addI rfl rfl) rfl rfl rfl ?_
                    refine V_y (Y_eql rfl rfl) rfl rfl rfl ?_
                    refine V_y (Y_move rfl) rfl rfl rfl ?_
                    refine V_cut 5 (fun _ : Unit => [(0, .string s), (2, v14), (5, .int .i64 s12.2.1), (6, .string s12.2.2), (7, .int .i64 s86), (81, .bool ((s86 == (w64 (s12.2.1 + 2))) || (s86 == (s.size : Int))))]) (fun _ w' => w13 = w') ?_ ?_
                    · simp only [List.take, List.drop]
                      rcases Bool.eq_false_or_eq_true (s86 == (w64 (s12.2.1 + 2))) with hc118 | hc118
                      · refine V_gn rfl rfl rfl hc118 rfl rfl rfl ?_
                        refine V_gn rfl rfl rfl hc118 rfl rfl rfl ?_
                        refine V_gn rfl rfl rfl hc118 rfl rfl rfl ?_
                        refine V_gn rfl rfl rfl hc118 rfl rfl rfl ?_
                        refine V_y (Y_pick_te rfl hc118 rfl) rfl rfl rfl ?_
                        exact V_end fun a ha => ⟨(), ha.sub ⟨rfl, rfl, rfl, rfl, rfl, (by rw [hc118]; rfl), trivial⟩, rfl⟩
                      · refine V_ge rfl rfl rfl hc118 ?_
                        refine V_y (Y_move rfl) rfl rfl rfl ?_
                        refine V_ge rfl rfl rfl hc118 ?_
                        refine V_y (Y_move rfl) rfl rfl rfl ?_
                        refine V_ge rfl rfl rfl hc118 ?_
                        refine V_y (Y_lenStr rfl Tryd.underlying9 rfl) rfl rfl rfl ?_
                        refine V_ge rfl rfl rfl hc118 ?_
                        refine V_y (Y_eql rfl rfl) rfl rfl rfl ?_
                        refine V_y (Y_pick_fe rfl hc118 rfl) rfl rfl rfl ?_
                        exact V_end fun a ha => ⟨(), ha.sub ⟨rfl, rfl, rfl, rfl, rfl, (by rw [hc118]; rfl), trivial⟩, rfl⟩
                    simp only [List.take, List.drop]
                    rintro _ _ rfl
                    refine V_y (Y_move rfl) rfl rfl rfl ?_
                    obtain ⟨s121, hs121, ho67⟩ := Option.bind_eq_some_iff.1 ho67
                    refine V_cut 6 (fun _ : Unit => [(0, .string s), (2, v14), (5, .int .i64 s12.2.1), (6, .string s12.2.2), (7, .int .i64 s86), (88, .bool s121)]) (fun _ w' => w13 = w') ?_ ?_
                    · simp only [List.take, List.drop]
                      rcases Bool.eq_false_or_eq_true (((s86 == (w64 (s12.2.1 + 2))) || (s86 == (s.size : Int)))) with hc120 | hc120
                      · rw [if_pos hc120] at hs121
                        refine V_gn rfl rfl rfl hc120 rfl rfl rfl ?_
                        refine V_gn rfl rfl rfl hc120 rfl rfl rfl ?_
                        refine V_gn rfl rfl rfl hc120 rfl rfl rfl ?_
                        refine V_gn rfl rfl rfl hc120 rfl rfl rfl ?_
                        refine V_gn rfl rfl rfl hc120 rfl rfl rfl ?_
                        refine V_y (Y_pick_te rfl hc120 rfl) rfl rfl rfl ?_
                        obtain rfl := Option.some.inj hs121
                        exact V_end fun a ha => ⟨(), ha.sub ⟨rfl, rfl, rfl, rfl, rfl, rfl, trivial⟩, rfl⟩
                      · rw [if_neg (nt hc120)] at hs121
                        refine V_ge rfl rfl rfl hc120 ?_
                        refine V_y (Y_move rfl) rfl rfl rfl ?_
                        refine V_ge rfl rfl rfl hc120 ?_
                        refine V_y (Y_move rfl) rfl rfl rfl ?_
                        refine V_ge rfl rfl rfl hc120 ?_
                        obtain ⟨x122, hx122, hs121⟩ := Option.bind_eq_some_iff.1 hs121
                        refine V_y (Y_indexS hx122 Tryd.underlying9 rfl rfl) rfl rfl rfl ?_
                        refine V_ge rfl rfl rfl hc120 ?_
                        refine V_call Tryd.call21 rfl rfl rfl rfl (strings_IndexByte_c w13 (⟨#[125, 124, 63]⟩ : ByteArray) (x122.toNat : Int)) ?_
                        rintro _ _ ⟨rfl, rfl⟩
                        refine V_ge rfl rfl rfl hc120 ?_
                        refine V_y (Y_lss rfl rfl) rfl rfl rfl ?_
                        refine V_y (Y_pick_fe rfl hc120 rfl) rfl rfl rfl ?_
                        obtain rfl := Option.some.inj hs121
                        exact V_end fun a ha => ⟨(), ha.sub ⟨rfl, rfl, rfl, rfl, rfl, rfl, trivial⟩, rfl⟩
                    simp only [List.take, List.drop]
                    rintro _ _ rfl
                    refine V_to (fun _ _ => rfl) ?_
                    refine C_cond rfl (fun hc123 => ?_) (fun hc123 => ?_)
                    · rw [if_pos hc123] at ho67
                      refine C_seq ?_
                      refine C_region ?_
                      refine V_y (Y_move rfl) rfl rfl rfl ?_
                      refine V_y (Y_assign rfl) rfl rfl rfl ?_
                      refine V_y (Y_assign rfl) rfl rfl rfl ?_
                      refine V_y (Y_assign rfl) rfl rfl rfl ?_
                      refine V_to (fun _ _ => rfl) ?_
                      obtain rfl := Option.some.inj ho67
                      rw [Lp.andThen_rt] at ho47
                      obtain rfl := Option.some.inj ho47
                      rw [Lp.andThen_rt] at ho36
                      obtain rfl := Option.some.inj ho36
                      rw [Lp.andThen_rt] at ho26
                      obtain rfl := Option.some.inj ho26
                      rw [Lp.andThen_rt] at h19
                      obtain rfl := Option.some.inj h19
                      obtain rfl := (h20 : Lp.rt _ = _)
                      rw [Lp.andThen_rt] at hm
                      obtain rfl := Option.some.inj hm
                      replace hH : Hp w.heap.size A16 w13 (obS (α := portref2_piece) 43 (.slice none 0 0) ([] : (List portref2_piece)) :: obS (α := portref2_piece) 43 v14 s12.1 :: []) := Hp.addNil (α := portref2_piece) (e := 43) hH
                      refine C_ret ?_
                      try simp only [↓inBlock_ret, ↓then_ret]
                      exact retQ rfl (Res.three Tryd.results12 rfl rfl rfl) ⟨.slice none 0 0, rfl, (Hp.ownd hH (i := 0) rfl), hK.kp⟩
                    · rw [if_neg (nt hc123)] at ho67
                      refine C_skip_to (fun _ _ => rfl) ?_
                      refine C_seq ?_
                      refine C_region_def (Dw := Dw) (B := w.heap.size) (k := 9) [(8, 43, .agg #[.string ByteArray.empty, .string ByteArray.empty, .int .u8 0, .string ByteArray.empty, .string ByteArray.empty])] [(98, 8)] Tryd_mixed (by kernel_rfl) rfl ⟨⟨_, _, _, rfl, by simp⟩, Tryd.zeroValue43, trivial⟩ ⟨⟨_, _, _, rfl, by decide, by decide⟩, by decide, rfl, Tryd.sizeOf43, trivial⟩ rfl rfl (by decide) hH hB hA ?_
                      simp only [List.take]
                      refine VQ_y (fun w' hw' => Y_move rfl) rfl rfl rfl ?_
                      refine VQ_y (fun w' hw' => Y_move rfl) rfl rfl rfl ?_
                      refine VQ_y (fun w' hw' => Y_addI rfl rfl) rfl rfl rfl ?_
                      refine VQ_y (fun w' hw' => Y_move rfl) rfl rfl rfl ?_
                      obtain ⟨x130, hx130, ho67⟩ := Option.bind_eq_some_iff.1 ho67
                      refine VQ_y (fun w' hw' => Y_sliceSLH hx130 Tryd.underlying9 rfl rfl rfl) rfl rfl rfl ?_
                      refine VQ_y (fun w' hw' => Y_move rfl) rfl rfl rfl ?_
                      refine VQ_y (fun w' hw' => Y_move rfl) rfl rfl rfl ?_
                      obtain ⟨x131, hx131, ho67⟩ := Option.bind_eq_some_iff.1 ho67
                      refine VQ_y (fun w' hw' => Y_indexS hx131 Tryd.underlying9 rfl rfl) rfl rfl rfl ?_
                      refine VQ_y (fun w' hw' => Y_build Tryd.underlying43 Tryd.zeroValue43 (Tryd_places43 _ Tryd.underlying43) rfl (by with_unfolding_all rfl)) rfl rfl rfl ?_
                      refine VQ_end fun a ha => ⟨_, [.agg #[.string ByteArray.empty, .string x130, .int .u8 (x131.toNat : Int), .string ByteArray.empty, .string ByteArray.empty]], ha, rfl, rfl, ⟨rfl, (by exact (List.forall_mem_cons.2 ⟨rfl, (List.forall_mem_cons.2 ⟨rfl, (List.forall_mem_cons.2 ⟨rfl, (List.forall_mem_cons.2 ⟨rfl, (List.forall_mem_cons.2 ⟨rfl, (fun _ h => nomatch h)⟩)⟩)⟩)⟩)⟩)), trivial⟩, fun b124 w125 A126 hH127 ht128 a ha129 => ?_⟩
                      replace hK := Tr.trans (Dw := Dw) hK ht128
                      replace hr3 := Tr.trans (Dw := Dw) hr3 ht128
                      replace hr28 := Tr.trans (Dw := Dw) hr28 ht128
                      replace hr38 := Tr.trans (Dw := Dw) hr38 ht128
                      replace hr49 := Tr.trans (Dw := Dw) hr49 ht128
                      replace hr69 := Tr.trans (Dw := Dw) hr69 ht128
                      replace hB := Nat.le_trans hB ht128.ex.size
                      replace hA := ht128.new
                      replace hH : Hp w.heap.size A126 w125 (obC (b124 0) [.string ByteArray.empty, .string x130, .int .u8 (x131.toNat : Int), .string ByteArray.empty, .string ByteArray.empty] 43 :: obS (α := portref2_piece) 43 v14 s12.1 :: []) := hH127
                      refine C_at (n := ⟨220, [], none⟩) (fun _ _ => rfl) ?_ ha129
                      refine C_seq ?_
                      refine C_seq ?_
                      refine C_region ?_
                      refine V_y (Y_move rfl) rfl rfl rfl ?_
                      refine V_y (Y_move rfl) rfl rfl rfl ?_
                      refine V_y (Y_indexS hx131 Tryd.underlying9 rfl rfl) rfl rfl rfl ?_
                      refine V_to (fun _ _ => rfl) ?_
                      obtain ⟨o132, ho132, ho67⟩ := Option.bind_eq_some_iff.1 ho67
                      refine C_cutG (ι := (((List portref2_piece) × Int × portref2_piece) × Value × (Nat → Prop))) (fun ⟨s133, v135, A140⟩ => [(0, .string s), (2, v135), (6, .string s12.2.2), (7, .int .i64 s133.2.1), (8, .pointer (some ⟨(b124 0), 0, none⟩))]) (fun ⟨s133, v135, A140⟩ => fun w' => o132 = .fin s133 ∧ Hp w.heap.size A140 w' (obC (b124 0) [.string s133.2.2.text, .string s133.2.2.name, .int .u8 (s133.2.2.kind.toNat : Int), .string s133.2.2.one, .string s133.2.2.both] 43 :: obS (α := portref2_piece) 43 v135 s133.1 :: []) ∧ Tr Dw w.heap.size A126 w125 A140 w') ?_ ?_
                      · have hr134 : Tr Dw w.heap.size A126 w125 A126 w125 := Tr.refl (Dw := Dw) hA
                        refine C_block ?_
                        refine C_seq ?_
                        refine C_region ?_
                        refine V_y (Y_eql rfl rfl) rfl rfl rfl ?_
                        refine V_y (Y_assign rfl) rfl rfl rfl ?_
                        refine V_to (fun _ _ => rfl) ?_
                        obtain ⟨o142, ho142, ho132⟩ := Option.bind_eq_some_iff.1 ho132
                        refine C_cutG (ι := (((List portref2_piece) × Int × portref2_piece) × Value × (Nat → Prop))) (fun ⟨s143, v145, A150⟩ => [(0, .string s), (2, v145), (6, .string s12.2.2), (7, .int .i64 s143.2.1), (8, .pointer (some ⟨(b124 0), 0, none⟩))]) (fun ⟨s143, v145, A150⟩ => fun w' => o142 = .fin s143 ∧ Hp w.heap.size A150 w' (obC (b124 0) [.string s143.2.2.text, .string s143.2.2.name, .int .u8 (s143.2.2.kind.toNat : Int), .string s143.2.2.one, .string s143.2.2.both] 43 :: obS (α := portref2_piece) 43 v145 s143.1 :: []) ∧ Tr Dw w.heap.size A126 w125 A150 w') ?_ ?_
                        · have hr144 : Tr Dw w.heap.size A126 w125 A126 w125 := Tr.refl (Dw := Dw) hA
                          refine C_cond rfl (fun hc152 => ?_) (fun hc152 => ?_)
                          · rw [if_pos hc152] at ho142
                            refine C_region ?_
                            refine V_y (Y_fieldAddrC (off2 := 2) Tryd.underlying43 rfl Tryd.sizeOf5 (by decide) rfl rfl) rfl rfl rfl ?_
                            refine V_storeC (Dw := Dw) (off := 2) (ds := [.string ByteArray.empty, .string x130, .int .u8 102, .string ByteArray.empty, .string ByteArray.empty]) hH (i := 0) rfl Tryd.sizeOf5 rfl (Nat.le_of_ble_eq_true rfl) (by simp [Value.cells, Value.oneCell']) rfl hB hA rfl rfl ?_
                            intro w153 hH154 ht155
                            replace hK := Tr.trans (Dw := Dw) hK ht155
                            replace hr3 := Tr.trans (Dw := Dw) hr3 ht155
                            replace hr28 := Tr.trans (Dw := Dw) hr28 ht155
                            replace hr38 := Tr.trans (Dw := Dw) hr38 ht155
                            replace hr49 := Tr.trans (Dw := Dw) hr49 ht155
                            replace hr69 := Tr.trans (Dw := Dw) hr69 ht155
                            replace hr134 := Tr.trans (Dw := Dw) hr134 ht155
                            replace hr144 := Tr.trans (Dw := Dw) hr144 ht155
                            replace hB := Nat.le_trans hB ht155.ex.size
                            replace hA := ht155.new
                            replace hH : Hp w.heap.size A126 w153 (obC (b124 0) [.string ByteArray.empty, .string x130, .int .u8 102, .string ByteArray.empty, .string ByteArray.empty] 43 :: obS (α := portref2_piece) 43 v14 s12.1 :: []) := hH154
                            obtain rfl := Option.some.inj ho142
                            refine V_end (fun a ha156 => ?_)
                            exact ⟨((s12.1, s86, (⟨ByteArray.empty, x130, (102 : UInt8), ByteArray.empty, ByteArray.empty⟩ : portref2_piece)), v14, A126), ha156.sub ⟨rfl, rfl, rfl, rfl, rfl, trivial⟩, ⟨rfl, hH, hr144⟩⟩
                          · rw [if_neg (nt hc152)] at ho142
                            refine C_seq ?_
                            refine C_region ?_
                            refine V_y (Y_eql rfl rfl) rfl rfl rfl ?_
                            refine V_y (Y_assign rfl) rfl rfl rfl ?_
                            refine V_to (fun _ _ => rfl) ?_
                            obtain ⟨o157, ho157, ho142⟩ := Option.bind_eq_some_iff.1 ho142
                            refine C_cutG (ι := (((List portref2_piece) × Int × portref2_piece) × Value × (Nat → Prop))) (fun ⟨s158, v160, A165⟩ => [(0, .string s), (2, v160), (6, .string s12.2.2), (7, .int .i64 s158.2.1), (8, .pointer (some ⟨(b124 0), 0, none⟩))]) (fun ⟨s158, v160, A165⟩ => fun w' => o157 = .fin s158 ∧ Hp w.heap.size A165 w' (obC (b124 0) [.string s158.2.2.text, .string s158.2.2.name, .int .u8 (s158.2.2.kind.toNat : Int), .string s158.2.2.one, .string s158.2.2.both] 43 :: obS (α := portref2_piece) 43 v160 s158.1 :: []) ∧ Tr Dw w.heap.size A126 w125 A165 w') ?_ ?_
                            · have hr159 : Tr Dw w.heap.size A126 w125 A126 w125 := Tr.refl (Dw := Dw) hA
                              refine C_cond rfl (fun hc167 => ?_) (fun hc167 => ?_)
                              · rw [if_pos hc167] at ho157
                                refine C_seq ?_
                                refine C_region ?_
                                refine V_y (Y_move rfl) rfl rfl rfl ?_
                                refine V_y (Y_move rfl) rfl rfl rfl ?_
                                refine V_y (Y_addI rfl rfl) rfl rfl rfl ?_
                                obtain ⟨x168, hx168, ho157⟩ := Option.bind_eq_some_iff.1 ho157
                                refine V_call Tryd.call22 rfl rfl rfl rfl (portref2_fieldString_c w125 s (w64 (s86 + 1)) (⟨#[125]⟩ : ByteArray) hx168) ?_
                                rintro _ _ ⟨rfl, rfl⟩
                                refine V_y (Y_move rfl) rfl rfl rfl ?_
                                refine V_y (Y_extract rfl rfl) rfl rfl rfl ?_
                                refine V_y (Y_extract rfl rfl) rfl rfl rfl ?_
                                refine V_y (Y_extract rfl rfl) rfl rfl rfl ?_
                                refine V_y (Y_fieldAddrC (off2 := 3) Tryd.underlying43 rfl Tryd.sizeOf9 (by decide) rfl rfl) rfl rfl rfl ?_
                                refine V_storeC (Dw := Dw) (off := 3) (ds := [.string ByteArray.empty, .string x130, .int .u8 (x131.toNat : Int), .string x168.1, .string ByteArray.empty]) hH (i := 0) rfl Tryd.sizeOf9 rfl (Nat.le_of_ble_eq_true rfl) (by simp [Value.cells, Value.oneCell']) rfl hB hA rfl rfl ?_
                                intro w169 hH170 ht171
                                replace hK := Tr.trans (Dw := Dw) hK ht171
                                replace hr3 := Tr.trans (Dw := Dw) hr3 ht171
                                replace hr28 := Tr.trans (Dw := Dw) hr28 ht171
                                replace hr38 := Tr.trans (Dw := Dw) hr38 ht171
                                replace hr49 := Tr.trans (Dw := Dw) hr49 ht171
                                replace hr69 := Tr.trans (Dw := Dw) hr69 ht171
                                replace hr134 := Tr.trans (Dw := Dw) hr134 ht171
                                replace hr144 := Tr.trans (Dw := Dw) hr144 ht171
                                replace hr159 := Tr.trans (Dw := Dw) hr159 ht171
                                replace hB := Nat.le_trans hB ht171.ex.size
                                replace hA := ht171.new
                                replace hH : Hp w.heap.size A126 w169 (obC (b124 0) [.string ByteArray.empty, .string x130, .int .u8 (x131.toNat : Int), .string x168.1, .string ByteArray.empty] 43 :: obS (α := portref2_piece) 43 v14 s12.1 :: []) := hH170
                                refine V_y (Y_assign rfl) rfl rfl rfl ?_
                                refine V_y (Y_assign rfl) rfl rfl rfl ?_
                                refine V_to (fun _ _ => rfl) ?_
                                refine C_seq ?_
                                refine C_region ?_
                                refine V_y (Y_move rfl) rfl rfl rfl ?_
                                refine V_y (Y_not rfl) rfl rfl rfl ?_
                                refine V_to (fun _ _ => rfl) ?_
                                refine C_cond rfl (fun hc172 => ?_) (fun hc172 => ?_)
                                · rw [if_pos hc172] at ho157
                                  refine C_seq ?_
                                  refine C_region ?_
                                  refine V_y (Y_move rfl) rfl rfl rfl ?_
                                  refine V_y (Y_assign rfl) rfl rfl rfl ?_
                                  refine V_y (Y_assign rfl) rfl rfl rfl ?_
                                  refine V_y (Y_assign rfl) rfl rfl rfl ?_
                                  refine V_to (fun _ _ => rfl) ?_
                                  obtain rfl := Option.some.inj ho157
                                  rw [Lp.andThen_rt] at ho142
                                  obtain rfl := Option.some.inj ho142
                                  rw [Lp.andThen_rt] at ho132
                                  obtain rfl := Option.some.inj ho132
                                  rw [Lp.andThen_rt] at ho67
                                  obtain rfl := Option.some.inj ho67
                                  rw [Lp.andThen_rt] at ho47
                                  obtain rfl := Option.some.inj ho47
                                  rw [Lp.andThen_rt] at ho36
                                  obtain rfl := Option.some.inj ho36
                                  rw [Lp.andThen_rt] at ho26
                                  obtain rfl := Option.some.inj ho26
                                  rw [Lp.andThen_rt] at h19
                                  obtain rfl := Option.some.inj h19
                                  obtain rfl := (h20 : Lp.rt _ = _)
                                  rw [Lp.andThen_rt] at hm
                                  obtain rfl := Option.some.inj hm
                                  replace hH : Hp w.heap.size A126 w169 (obS (α := portref2_piece) 43 (.slice none 0 0) ([] : (List portref2_piece)) :: obC (b124 0) [.string ByteArray.empty, .string x130, .int .u8 (x131.toNat : Int), .string x168.1, .string ByteArray.empty] 43 :: obS (α := portref2_piece) 43 v14 s12.1 :: []) := Hp.addNil (α := portref2_piece) (e := 43) hH
                                  refine C_ret ?_
                                  try simp only [↓inBlock_ret, ↓then_ret]
                                  exact retQ rfl (Res.three Tryd.results12 rfl rfl rfl) ⟨.slice none 0 0, rfl, (Hp.ownd hH (i := 0) rfl), hK.kp⟩
                                · rw [if_neg (nt hc172)] at ho157
                                  obtain rfl := Option.some.inj ho157
                                  refine C_skip (fun a ha173 => ?_)
                                  exact ⟨((s12.1, x168.2.1, (⟨ByteArray.empty, x130, x131, x168.1, ByteArray.empty⟩ : portref2_piece)), v14, A126), ha173.sub ⟨rfl, rfl, rfl, rfl, rfl, trivial⟩, ⟨rfl, hH, hr159⟩⟩
                              · rw [if_neg (nt hc167)] at ho157
                                refine C_seq ?_
                                refine C_seq ?_
                                refine C_region ?_
                                refine V_y (Y_move rfl) rfl rfl rfl ?_
                                refine V_y (Y_move rfl) rfl rfl rfl ?_
                                refine V_y (Y_addI rfl rfl) rfl rfl rfl ?_
                                obtain ⟨x174, hx174, ho157⟩ := Option.bind_eq_some_iff.1 ho157
                                refine V_call Tryd.call22 rfl rfl rfl rfl (portref2_fieldString_c w125 s (w64 (s86 + 1)) (⟨#[58]⟩ : ByteArray) hx174) ?_
                                rintro _ _ ⟨rfl, rfl⟩
                                refine V_y (Y_move rfl) rfl rfl rfl ?_
                                refine V_y (Y_extract rfl rfl) rfl rfl rfl ?_
                                refine V_y (Y_extract rfl rfl) rfl rfl rfl ?_
                                refine V_y (Y_extract rfl rfl) rfl rfl rfl ?_
                                refine V_y (Y_fieldAddrC (off2 := 3) Tryd.underlying43 rfl Tryd.sizeOf9 (by decide) rfl rfl) rfl rfl rfl ?_
                                refine V_storeC (Dw := Dw) (off := 3) (ds := [.string ByteArray.empty, .string x130, .int .u8 (x131.toNat : Int), .string x174.1, .string ByteArray.empty]) hH (i := 0) rfl Tryd.sizeOf9 rfl (Nat.le_of_ble_eq_true rfl) (by simp [Value.cells, Value.oneCell']) rfl hB hA rfl rfl ?_
                                intro w175 hH176 ht177
                                replace hK := Tr.trans (Dw := Dw) hK ht177
                                replace hr3 := Tr.trans (Dw := Dw) hr3 ht177
                                replace hr28 := Tr.trans (Dw := Dw) hr28 ht177
                                replace hr38 := Tr.trans (Dw := Dw) hr38 ht177
                                replace hr49 := Tr.trans (Dw := Dw) hr49 ht177
                                replace hr69 := Tr.trans (Dw := Dw) hr69 ht177
                                replace hr134 := Tr.trans (Dw := Dw) hr134 ht177
                                replace hr144 := Tr.trans (Dw := Dw) hr144 ht177
                                replace hr159 := Tr.trans (Dw := Dw) hr159 ht177
                                replace hB := Nat.le_trans hB ht177.ex.size
                                replace hA := ht177.new
                                replace hH : Hp w.heap.size A126 w175 (obC (b124 0) [.string ByteArray.empty, .string x130, .int .u8 (x131.toNat : Int), .string x174.1, .string ByteArray.empty] 43 :: obS (α := portref2_piece) 43 v14 s12.1 :: []) := hH176
                                refine V_y (Y_assign rfl) rfl rfl rfl ?_
                                refine V_y (Y_assign rfl) rfl rfl rfl ?_
                                refine V_to (fun _ _ => rfl) ?_
                                refine C_seq ?_
                                refine C_region ?_
                                refine V_y (Y_move rfl) rfl rfl rfl ?_
                                refine V_y (Y_not rfl) rfl rfl rfl ?_
                                refine V_to (fun _ _ => rfl) ?_
                                refine C_cond rfl (fun hc178 => ?_) (fun hc178 => ?_)
                                · rw [if_pos hc178] at ho157
                                  refine C_seq ?_
                                  refine C_region ?_
                                  refine V_y (Y_move rfl) rfl rfl rfl ?_
                                  refine V_y (Y_assign rfl) rfl rfl rfl ?_
                                  refine V_y (Y_assign rfl) rfl rfl rfl ?_
                                  refine V_y (Y_assign rfl) rfl rfl rfl ?_
                                  refine V_to (fun _ _ => rfl) ?_
                                  obtain rfl := Option.some.inj ho157
                                  rw [Lp.andThen_rt] at ho142
                                  obtain rfl := Option.some.inj ho142
                                  rw [Lp.andThen_rt] at ho132
                                  obtain rfl := Option.some.inj ho132
                                  rw [Lp.andThen_rt] at ho67
                                  obtain rfl := Option.some.inj ho67
                                  rw [Lp.andThen_rt] at ho47
                                  obtain rfl := Option.some.inj ho47
                                  rw [Lp.andThen_rt] at ho36
                                  obtain rfl := Option.some.inj ho36
                                  rw [Lp.andThen_rt] at ho26
                                  obtain rfl := Option.some.inj ho26
                                  rw [Lp.andThen_rt] at h19
                                  obtain rfl := Option.some.inj h19
                                  obtain rfl := (h20 : Lp.rt _ = _)
                                  rw [Lp.andThen_rt] at hm
                                  obtain rfl := Option.some.inj hm
                                  replace hH : Hp w.heap.size A126 w175 (obS (α := portref2_piece) 43 (.slice none 0 0) ([] : (List portref2_piece)) :: obC (b124 0) [.string ByteArray.empty, .string x130, .int .u8 (x131.toNat : Int), .string x174.1, .string ByteArray.empty] 43 :: obS (α := portref2_piece) 43 v14 s12.1 :: []) := Hp.addNil (α := portref2_piece) (e := 43) hH
                                  refine C_ret ?_
                                  try simp only [↓inBlock_ret, ↓then_ret]
                                  exact retQ rfl (Res.three Tryd.results12 rfl rfl rfl) ⟨.slice none 0 0, rfl, (Hp.ownd hH (i := 0) rfl), hK.kp⟩
                                · rw [if_neg (nt hc178)] at ho157
                                  refine C_skip_to (fun _ _ => rfl) ?_
                                  refine C_seq ?_
                                  refine C_region ?_
                                  refine V_y (Y_move rfl) rfl rfl rfl ?_
                                  refine V_y (Y_move rfl) rfl rfl rfl ?_
                                  refine V_y (Y_addI rfl rfl) rfl rfl rfl ?_
                                  obtain ⟨x179, hx179, ho157⟩ := Option.bind_eq_some_iff.1 ho157
                                  refine V_call Tryd.call22 rfl rfl rfl rfl (portref2_fieldString_c w175 s (w64 (x174.2.1 + 1)) (⟨#[125]⟩ : ByteArray) hx179) ?_
                                  rintro _ _ ⟨rfl, rfl⟩
                                  refine V_y (Y_move rfl) rfl rfl rfl ?_
                                  refine V_y (Y_extract rfl rfl) rfl rfl rfl ?_
                                  refine V_y (Y_extract rfl rfl) rfl rfl rfl ?_
                                  refine V_y (Y_extract rfl rfl) rfl rfl rfl ?_
                                  refine V_y (Y_fieldAddrC (off2 := 4) Tryd.underlying43 rfl Tryd.sizeOf9 (by decide) rfl rfl) rfl rfl rfl ?_
                                  refine V_storeC (Dw := Dw) (off := 4) (ds := [.string ByteArray.empty, .string x130, .int .u8 (x131.toNat : Int), .string x174.1, .string x179.1]) hH (i := 0) rfl Tryd.sizeOf9 rfl (Nat.le_of_ble_eq_true rfl) (by simp [Value.cells, Value.oneCell']) rfl hB hA rfl rfl ?_
                                  intro w180 hH181 ht182
                                  replace hK := Tr.trans (Dw := Dw) hK ht182
                                  replace hr3 := Tr.trans (Dw := Dw) hr3 ht182
                                  replace hr28 := Tr.trans (Dw := Dw) hr28 ht182
                                  replace hr38 := Tr.trans (Dw := Dw) hr38 ht182
                                  replace hr49 := Tr.trans (Dw := Dw) hr49 ht182
                                  replace hr69 := Tr.trans (Dw := Dw) hr69 ht182
                                  replace hr134 := Tr.trans (Dw := Dw) hr134 ht182
                                  replace hr144 := Tr.trans (Dw := Dw) hr144 ht182
                                  replace hr159 := Tr.trans (Dw := Dw) hr159 ht182
                                  replace hB := Nat.le_trans hB ht182.ex.size
                                  replace hA := ht182.new
                                  replace hH : Hp w.heap.size A126 w180 (obC (b124 0) [.string ByteArray.empty, .string x130, .int .u8 (x131.toNat : Int), .string x174.1, .string x179.1] 43 :: obS (α := portref2_piece) 43 v14 s12.1 :: []) := hH181
                                  refine V_y (Y_assign rfl) rfl rfl rfl ?_
                                  refine V_y (Y_assign rfl) rfl rfl rfl ?_
                                  refine V_to (fun _ _ => rfl) ?_
                                  refine C_seq ?_
                                  refine C_region ?_
                                  refine V_y (Y_move rfl) rfl rfl rfl ?_
                                  refine V_y (Y_not rfl) rfl rfl rfl ?_
                                  refine V_to (fun _ _ => rfl) ?_
                                  refine C_cond rfl (fun hc183 => ?_) (fun hc183 => ?_)
                                  · rw [if_pos hc183] at ho157
                                    refine C_seq ?_
                                    refine C_region ?_
                                    refine V_y (Y_move rfl) rfl rfl rfl ?_
                                    refine V_y (Y_assign rfl) rfl rfl rfl ?_
                                    refine V_y (Y_assign rfl) rfl rfl rfl ?_
                                    refine V_y (Y_assign rfl) rfl rfl rfl ?_
                                    refine V_to (fun _ _ => rfl) ?_
                                    obtain rfl := Option.some.inj ho157
                                    rw [Lp.andThen_rt] at ho142
                                    obtain rfl := Option.some.inj ho142
                                    rw [Lp.andThen_rt] at ho132
                                    obtain rfl := Option.some.inj ho132
                                    rw [Lp.andThen_rt] at ho67
                                    obtain rfl := Option.some.inj ho67
                                    rw [Lp.andThen_rt] at ho47
                                    obtain rfl := Option.some.inj ho47
                                    rw [Lp.andThen_rt] at ho36
                                    obtain rfl := Option.some.inj ho36
                                    rw [Lp.andThen_rt] at ho26
                                    obtain rfl := Option.some.inj ho26
                                    rw [Lp.andThen_rt] at h19
                                    obtain rfl := Option.some.inj h19
                                    obtain rfl := (h20 : Lp.rt _ = _)
                                    rw [Lp.andThen_rt] at hm
                                    obtain rfl := Option.some.inj hm
                                    replace hH : Hp w.heap.size A126 w180 (obS (α := portref2_piece) 43 (.slice none 0 0) ([] : (List portref2_piece)) :: obC (b124 0) [.string ByteArray.empty, .string x130, .int .u8 (x131.toNat : Int), .string x174.1, .string x179.1] 43 :: obS (α := portref2_piece) 43 v14 s12.1 :: []) := Hp.addNil (α := portref2_piece) (e := 43) hH
                                    refine C_ret ?_
                                    try simp only [↓inBlock_ret, ↓then_ret]
                                    exact retQ rfl (Res.three Tryd.results12 rfl rfl rfl) ⟨.slice none 0 0, rfl, (Hp.ownd hH (i := 0) rfl), hK.kp⟩
                                  · rw [if_neg (nt hc183)] at ho157
                                    obtain rfl := Option.some.inj ho157
                                    refine C_skip (fun a ha184 => ?_)
                                    exact ⟨((s12.1, x179.2.1, (⟨ByteArray.empty, x130, x131, x174.1, x179.1⟩ : portref2_piece)), v14, A126), ha184.sub ⟨rfl, rfl, rfl, rfl, rfl, trivial⟩, ⟨rfl, hH, hr159⟩⟩
                            rintro ⟨s158, v160, A165⟩ w162 ⟨rfl, hH166, hk163⟩ a ha164
                            rw [Lp.andThen_fin] at ho142
                            replace hK := Tr.trans (Dw := Dw) hK hk163
                            replace hr3 := Tr.trans (Dw := Dw) hr3 hk163
                            replace hr28 := Tr.trans (Dw := Dw) hr28 hk163
                            replace hr38 := Tr.trans (Dw := Dw) hr38 hk163
                            replace hr49 := Tr.trans (Dw := Dw) hr49 hk163
                            replace hr69 := Tr.trans (Dw := Dw) hr69 hk163
                            replace hr134 := Tr.trans (Dw := Dw) hr134 hk163
                            replace hr144 := Tr.trans (Dw := Dw) hr144 hk163
                            replace hB := Nat.le_trans hB hk163.ex.size
                            replace hA := hk163.new
                            replace hH : Hp w.heap.size A165 w162 (obC (b124 0) [.string s158.2.2.text, .string s158.2.2.name, .int .u8 (s158.2.2.kind.toNat : Int), .string s158.2.2.one, .string s158.2.2.both] 43 :: obS (α := portref2_piece) 43 v160 s158.1 :: []) := hH166
                            obtain rfl := Option.some.inj ho142
                            exact ⟨((s158.1, s158.2.1, s158.2.2), v160, A165), ha164.sub ⟨rfl, rfl, rfl, rfl, rfl, trivial⟩, ⟨rfl, hH, hr144⟩⟩
                        rintro ⟨s143, v145, A150⟩ w147 ⟨rfl, hH151, hk148⟩ a ha149
                        rw [Lp.andThen_fin] at ho132
                        replace hK := Tr.trans (Dw := Dw) hK hk148
                        replace hr3 := Tr.trans (Dw := Dw) hr3 hk148
                        replace hr28 := Tr.trans (Dw := Dw) hr28 hk148
                        replace hr38 := Tr.trans (Dw := Dw) hr38 hk148
                        replace hr49 := Tr.trans (Dw := Dw) hr49 hk148
                        replace hr69 := Tr.trans (Dw := Dw) hr69 hk148
                        replace hr134 := Tr.trans (Dw := Dw) hr134 hk148
                        replace hB := Nat.le_trans hB hk148.ex.size
                        replace hA := hk148.new
                        replace hH : Hp w.heap.size A150 w147 (obC (b124 0) [.string s143.2.2.text, .string s143.2.2.name, .int .u8 (s143.2.2.kind.toNat : Int), .string s143.2.2.one, .string s143.2.2.both] 43 :: obS (α := portref2_piece) 43 v145 s143.1 :: []) := hH151
                        obtain rfl := Option.some.inj ho132
                        exact ⟨((s143.1, s143.2.1, s143.2.2), v145, A150), ha149.sub ⟨rfl, rfl, rfl, rfl, rfl, trivial⟩, ⟨rfl, hH, hr134⟩⟩
                      rintro ⟨s133, v135, A140⟩ w137 ⟨rfl, hH141, hk138⟩ a ha139
                      rw [Lp.andThen_fin] at ho67
                      replace hK := Tr.trans (Dw := Dw) hK hk138
                      replace hr3 := Tr.trans (Dw := Dw) hr3 hk138
                      replace hr28 := Tr.trans (Dw := Dw) hr28 hk138
                      replace hr38 := Tr.trans (Dw := Dw) hr38 hk138
                      replace hr49 := Tr.trans (Dw := Dw) hr49 hk138
                      replace hr69 := Tr.trans (Dw := Dw) hr69 hk138
                      replace hB := Nat.le_trans hB hk138.ex.size
                      replace hA := hk138.new
                      replace hH : Hp w.heap.size A140 w137 (obC (b124 0) [.string s133.2.2.text, .string s133.2.2.name, .int .u8 (s133.2.2.kind.toNat : Int), .string s133.2.2.one, .string s133.2.2.both] 43 :: obS (α := portref2_piece) 43 v135 s133.1 :: []) := hH141
                      refine C_at (n := ⟨220, [], none⟩) (fun _ _ => rfl) ?_ ha139
                      refine C_seq ?_
                      refine C_seq ?_
                      refine C_region ?_
                      refine V_y (Y_move rfl) rfl rfl rfl ?_
                      refine V_y (Y_addI rfl rfl) rfl rfl rfl ?_
                      refine V_y (Y_move rfl) rfl rfl rfl ?_
                      refine V_y (Y_lenStr rfl Tryd.underlying9 rfl) rfl rfl rfl ?_
                      refine V_y (Y_eql rfl rfl) rfl rfl rfl ?_
                      refine V_y (Y_move rfl) rfl rfl rfl ?_
                      obtain ⟨s188, hs188, ho67⟩ := Option.bind_eq_some_iff.1 ho67
                      refine V_cut 6 (fun _ : Unit => [(0, .string s), (2, v135), (6, .string s12.2.2), (7, .int .i64 s133.2.1), (8, .pointer (some ⟨(b124 0), 0, none⟩)), (154, .bool s188)]) (fun _ w' => w137 = w') ?_ ?_
                      · simp only [List.take, List.drop]
                        rcases Bool.eq_false_or_eq_true ((w64 (s133.2.1 + 1)) == (s.size : Int)) with hc187 | hc187
                        · rw [if_pos hc187] at hs188
                          refine V_gn rfl rfl rfl hc187 rfl rfl rfl ?_
                          refine V_gn rfl rfl rfl hc187 rfl rfl rfl ?_
                          refine V_gn rfl rfl rfl hc187 rfl rfl rfl ?_
                          refine V_gn rfl rfl rfl hc187 rfl rfl rfl ?_
                          refine V_gn rfl rfl rfl hc187 rfl rfl rfl ?_
                          refine V_y (Y_pick_te rfl hc187 rfl) rfl rfl rfl ?_
                          obtain rfl := Option.some.inj hs188
                          exact V_end fun a ha => ⟨(), ha.sub ⟨rfl, rfl, rfl, rfl, rfl, rfl, trivial⟩, rfl⟩
                        · rw [if_neg (nt hc187)] at hs188
                          refine V_ge rfl rfl rfl hc187 ?_
                          refine V_y (Y_move rfl) rfl rfl rfl ?_
                          refine V_ge rfl rfl rfl hc187 ?_
                          refine V_y (Y_move rfl) rfl rfl rfl ?_
                          refine V_ge rfl rfl rfl hc187 ?_
                          refine V_y (Y_addI rfl rfl) rfl rfl rfl ?_
                          refine V_ge rfl rfl rfl hc187 ?_
                          obtain ⟨x189, hx189, hs188⟩ := Option.bind_eq_some_iff.1 hs188
                          refine V_y (Y_indexS hx189 Tryd.underlying9 rfl rfl) rfl rfl rfl ?_
                          refine V_ge rfl rfl rfl hc187 ?_
                          refine V_y (Y_neq rfl rfl) rfl rfl rfl ?_
                          refine V_y (Y_pick_fe rfl hc187 rfl) rfl rfl rfl ?_
                          obtain rfl := Option.some.inj hs188
                          exact V_end fun a ha => ⟨(), ha.sub ⟨rfl, rfl, rfl, rfl, rfl, rfl, trivial⟩, rfl⟩
                      simp only [List.take, List.drop]
                      rintro _ _ rfl
                      refine V_to (fun _ _ => rfl) ?_
                      refine C_cond rfl (fun hc190 => ?_) (fun hc190 => ?_)
                      · rw [if_pos hc190] at ho67
                        refine C_seq ?_
                        refine C_region ?_
                        refine V_y (Y_move rfl) rfl rfl rfl ?_
                        refine V_y (Y_addI rfl rfl) rfl rfl rfl ?_
                        refine V_y (Y_assign rfl) rfl rfl rfl ?_
                        refine V_y (Y_assign rfl) rfl rfl rfl ?_
                        refine V_y (Y_assign rfl) rfl rfl rfl ?_
                        refine V_to (fun _ _ => rfl) ?_
                        obtain rfl := Option.some.inj ho67
                        rw [Lp.andThen_rt] at ho47
                        obtain rfl := Option.some.inj ho47
                        rw [Lp.andThen_rt] at ho36
                        obtain rfl := Option.some.inj ho36
                        rw [Lp.andThen_rt] at ho26
                        obtain rfl := Option.some.inj ho26
                        rw [Lp.andThen_rt] at h19
                        obtain rfl := Option.some.inj h19
                        obtain rfl := (h20 : Lp.rt _ = _)
                        rw [Lp.andThen_rt] at hm
                        obtain rfl := Option.some.inj hm
                        replace hH : Hp w.heap.size A140 w137 (obS (α := portref2_piece) 43 (.slice none 0 0) ([] : (List portref2_piece)) :: obC (b124 0) [.string s133.2.2.text, .string s133.2.2.name, .int .u8 (s133.2.2.kind.toNat : Int), .string s133.2.2.one, .string s133.2.2.both] 43 :: obS (α := portref2_piece) 43 v135 s133.1 :: []) := Hp.addNil (α := portref2_piece) (e := 43) hH
                        refine C_ret ?_
                        try simp only [↓inBlock_ret, ↓then_ret]
                        exact retQ rfl (Res.three Tryd.results12 rfl rfl rfl) ⟨.slice none 0 0, rfl, (Hp.ownd hH (i := 0) rfl), hK.kp⟩
                      · rw [if_neg (nt hc190)] at ho67
                        refine C_skip_to (fun _ _ => rfl) ?_
                        refine C_seq ?_
                        refine C_region ?_
                        refine V_y (Y_move rfl) rfl rfl rfl ?_
                        refine V_y (Y_move rfl) rfl rfl rfl ?_
                        refine V_y (Y_build Tryd.underlying43 Tryd.zeroValue43 (Tryd_places43 _ Tryd.underlying43) rfl (by with_unfolding_all rfl)) rfl rfl rfl ?_
                        refine V_y (Y_loadA (Hp.part (off := 0) (n := 5) (ds := [.string s133.2.2.text, .string s133.2.2.name, .int .u8 (s133.2.2.kind.toNat : Int), .string s133.2.2.one, .string s133.2.2.both]) hH (i := 0) rfl rfl) Tryd.isAgg43 Tryd.sizeOf43 rfl) rfl rfl rfl ?_
                        refine V_buildSlice (Dw := Dw) (cells := #[.string s12.2.2, .string ByteArray.empty, .int .u8 0, .string ByteArray.empty, .string ByteArray.empty, .string s133.2.2.text, .string s133.2.2.name, .int .u8 (s133.2.2.kind.toNat : Int), .string s133.2.2.one, .string s133.2.2.both]) (l := ([(⟨s12.2.2, ByteArray.empty, 0, ByteArray.empty, ByteArray.empty⟩ : portref2_piece), s133.2.2] : List portref2_piece)) (len := 2) Tryd.underlying25 Tryd.sizeOf43 Tryd.zeroValue43 rfl (by generalize ((s133.2.2.kind.toNat : Int) : Int) = z195; kernel_rfl) (show (2 * 5 : Nat) ≠ 0 by decide) (show (2 * 5 : Nat) ≤ 2 ^ 24 by decide) hA ⟨[.string s12.2.2, .string ByteArray.empty, .int .u8 0, .string ByteArray.empty, .string ByteArray.empty], _, rfl, ⟨[.string s12.2.2], _, rfl, rfl, ⟨[.string ByteArray.empty], _, rfl, rfl, ⟨[.int .u8 0], _, rfl, rfl, ⟨[.string ByteArray.empty], _, rfl, rfl, rfl⟩⟩⟩⟩, ⟨[.string s133.2.2.text, .string s133.2.2.name, .int .u8 (s133.2.2.kind.toNat : Int), .string s133.2.2.one, .string s133.2.2.both], _, rfl, ⟨[.string s133.2.2.text], _, rfl, rfl, ⟨[.string s133.2.2.name], _, rfl, rfl, ⟨[.int .u8 (s133.2.2.kind.toNat : Int)], _, rfl, rfl, ⟨[.string s133.2.2.one], _, rfl, rfl, rfl⟩⟩⟩⟩, rfl⟩⟩ rfl rfl ?_
                        intro v191 w192 hk194 h193
                        have ht196 := Kp.tr (Dw := Dw) hk194 hA hB
                        replace hH := Hp.kp (Dw := Dw) hH hk194
                        replace hK := Tr.trans (Dw := Dw) hK ht196
                        replace hr3 := Tr.trans (Dw := Dw) hr3 ht196
                        replace hr28 := Tr.trans (Dw := Dw) hr28 ht196
                        replace hr38 := Tr.trans (Dw := Dw) hr38 ht196
                        replace hr49 := Tr.trans (Dw := Dw) hr49 ht196
                        replace hr69 := Tr.trans (Dw := Dw) hr69 ht196
                        replace hB := Nat.le_trans hB ht196.ex.size
                        replace hA := ht196.new
                        obtain ⟨x197, hx197, ho67⟩ := Option.bind_eq_some_iff.1 ho67
                        refine V_appendH (Dw := Dw) (e := 43) (v := v135) (l := s133.1) (ti := Tryd.t43) (bytes := 72) (lim := 1954687338268) hH (i := 1) rfl h193 hx197 Tryd.underlying25 Tryd_info43 rfl rfl rfl rfl (by decide) (by decide) (by decide) hB hA rfl rfl rfl ?_
                        intro v198 w199 A200 hH201 ht202
                        replace h193 := Sl.tr (Dw := Dw) h193 ht202
                        replace hK := Tr.trans (Dw := Dw) hK ht202
                        replace hr3 := Tr.trans (Dw := Dw) hr3 ht202
                        replace hr28 := Tr.trans (Dw := Dw) hr28 ht202
                        replace hr38 := Tr.trans (Dw := Dw) hr38 ht202
                        replace hr49 := Tr.trans (Dw := Dw) hr49 ht202
                        replace hr69 := Tr.trans (Dw := Dw) hr69 ht202
                        replace hB := Nat.le_trans hB ht202.ex.size
                        replace hA := ht202.new
                        replace hH : Hp w.heap.size A200 w199 (obC (b124 0) [.string s133.2.2.text, .string s133.2.2.name, .int .u8 (s133.2.2.kind.toNat : Int), .string s133.2.2.one, .string s133.2.2.both] 43 :: obS (α := portref2_piece) 43 v198 x197 :: []) := hH201
                        refine V_y (Y_assign rfl) rfl rfl rfl ?_
                        refine V_to (fun _ _ => rfl) ?_
                        refine C_seq ?_
                        refine C_region ?_
                        refine V_y (Y_assign rfl) rfl rfl rfl ?_
                        refine V_to (fun _ _ => rfl) ?_
                        refine C_region ?_
                        refine V_y (Y_move rfl) rfl rfl rfl ?_
                        refine V_y (Y_addI rfl rfl) rfl rfl rfl ?_
                        refine V_y (Y_assign rfl) rfl rfl rfl ?_
                        obtain rfl := Option.some.inj ho67
                        refine V_end (fun a ha203 => ?_)
                        replace hH : Hp w.heap.size A200 w199 (obS (α := portref2_piece) 43 v198 x197 :: obC (b124 0) [.string s133.2.2.text, .string s133.2.2.name, .int .u8 (s133.2.2.kind.toNat : Int), .string s133.2.2.one, .string s133.2.2.both] 43 :: []) := Hp.front hH (i := 1) rfl
                        replace hH : Hp w.heap.size A200 w199 (obS (α := portref2_piece) 43 v198 x197 :: []) := Hp.drop hH (i := 1) rfl
                        exact ⟨((x197, w64 (s133.2.1 + 2), (⟨#[]⟩ : ByteArray)), v198, A200), ha203.sub ⟨rfl, rfl, rfl, rfl, trivial⟩, ⟨rfl, hH, hr69⟩⟩
              rintro ⟨s68, v70, A75⟩ w72 ⟨rfl, hH76, hk73⟩ a ha74
              rw [Lp.andThen_fin] at ho47
              replace hK := Tr.trans (Dw := Dw) hK hk73
              replace hr3 := Tr.trans (Dw := Dw) hr3 hk73
              replace hr28 := Tr.trans (Dw := Dw) hr28 hk73
              replace hr38 := Tr.trans (Dw := Dw) hr38 hk73
              replace hr49 := Tr.trans (Dw := Dw) hr49 hk73
              replace hB := Nat.le_trans hB hk73.ex.size
              replace hA := hk73.new
              replace hH : Hp w.heap.size A75 w72 (obS (α := portref2_piece) 43 v70 s68.1 :: []) := hH76
              obtain rfl := Option.some.inj ho47
              exact ⟨((s68.1, s68.2.1, s68.2.2), v70, A75), ha74.sub ⟨rfl, rfl, rfl, rfl, trivial⟩, ⟨rfl, hH, hr49⟩⟩
          rintro ⟨s48, v50, A55⟩ w52 ⟨rfl, hH56, hk53⟩ a ha54
          rw [Lp.andThen_fin] at ho36
          replace hK := Tr.trans (Dw := Dw) hK hk53
          replace hr3 := Tr.trans (Dw := Dw) hr3 hk53
          replace hr28 := Tr.trans (Dw := Dw) hr28 hk53
          replace hr38 := Tr.trans (Dw := Dw) hr38 hk53
          replace hB := Nat.le_trans hB hk53.ex.size
          replace hA := hk53.new
          replace hH : Hp w.heap.size A55 w52 (obS (α := portref2_piece) 43 v50 s48.1 :: []) := hH56
          obtain rfl := Option.some.inj ho36
          exact ⟨((s48.1, s48.2.1, s48.2.2), v50, A55), ha54.sub ⟨rfl, rfl, rfl, rfl, trivial⟩, ⟨rfl, hH, hr38⟩⟩
        rintro ⟨s37, v39, A44⟩ w41 ⟨rfl, hH45, hk42⟩ a ha43
        rw [Lp.andThen_fin] at ho26
        replace hK := Tr.trans (Dw := Dw) hK hk42
        replace hr3 := Tr.trans (Dw := Dw) hr3 hk42
        replace hr28 := Tr.trans (Dw := Dw) hr28 hk42
        replace hB := Nat.le_trans hB hk42.ex.size
        replace hA := hk42.new
        replace hH : Hp w.heap.size A44 w41 (obS (α := portref2_piece) 43 v39 s37.1 :: []) := hH45
        obtain rfl := Option.some.inj ho26
        exact ⟨((s37.1, s37.2.1, s37.2.2), v39, A44), ha43.sub ⟨rfl, rfl, rfl, rfl, trivial⟩, ⟨rfl, hH, hr28⟩⟩
      rintro ⟨s27, v29, A34⟩ w31 ⟨rfl, hH35, hk32⟩ a ha33
      rw [Lp.andThen_fin] at h19
      replace hK := Tr.trans (Dw := Dw) hK hk32
      replace hr3 := Tr.trans (Dw := Dw) hr3 hk32
      replace hB := Nat.le_trans hB hk32.ex.size
      replace hA := hk32.new
      replace hH : Hp w.heap.size A34 w31 (obS (α := portref2_piece) 43 v29 s27.1 :: []) := hH35
      obtain rfl := Option.some.inj h19
      exact ⟨(s27.1, s27.2.1, s27.2.2), h20, ⟨(v29, A34), ha33.sub ⟨rfl, rfl, rfl, rfl, trivial⟩, ⟨hH, hr3⟩⟩⟩
    · rw [if_neg (nt hc25)] at h19
      obtain rfl := Option.some.inj h19
      refine C_exit (fun a ha208 => ?_)
      exact ⟨((s12.1, s12.2.1, s12.2.2), v14, A16), ha208.sub ⟨rfl, rfl, trivial⟩, ⟨h20.symm, hH, hr3⟩⟩
  rintro ⟨s2, v8, A10⟩ w5 ⟨rfl, hH11, hk6⟩ a ha7
  rw [Lp.andThen_fin] at hm
  replace hK := Tr.trans (Dw := Dw) hK hk6
  replace hB := Nat.le_trans hB hk6.ex.size
  replace hA := hk6.new
  replace hH : Hp w.heap.size A10 w5 (obS (α := portref2_piece) 43 v8 s2.1 :: []) := hH11
  refine C_at (n := ⟨220, [], none⟩) (fun _ _ => rfl) ?_ ha7
  refine C_seq ?_
  refine C_region ?_
  refine V_y (Y_move rfl) rfl rfl rfl ?_
  refine V_y (Y_move rfl) rfl rfl rfl ?_
  refine V_y (Y_build Tryd.underlying43 Tryd.zeroValue43 (Tryd_places43 _ Tryd.underlying43) rfl (by with_unfolding_all rfl)) rfl rfl rfl ?_
  refine V_buildSlice (Dw := Dw) (cells := #[.string s2.2.2, .string ByteArray.empty, .int .u8 0, .string ByteArray.empty, .string ByteArray.empty]) (l := ([(⟨s2.2.2, ByteArray.empty, 0, ByteArray.empty, ByteArray.empty⟩ : portref2_piece)] : List portref2_piece)) (len := 1) Tryd.underlying25 Tryd.sizeOf43 Tryd.zeroValue43 rfl (by kernel_rfl) (show (1 * 5 : Nat) ≠ 0 by decide) (show (1 * 5 : Nat) ≤ 2 ^ 24 by decide) hA ⟨[.string s2.2.2, .string ByteArray.empty, .int .u8 0, .string ByteArray.empty, .string ByteArray.empty], _, rfl, ⟨[.string s2.2.2], _, rfl, rfl, ⟨[.string ByteArray.empty], _, rfl, rfl, ⟨[.int .u8 0], _, rfl, rfl, ⟨[.string ByteArray.empty], _, rfl, rfl, rfl⟩⟩⟩⟩, rfl⟩ rfl rfl ?_
  intro v210 w211 hk213 h212
  have ht214 := Kp.tr (Dw := Dw) hk213 hA hB
  replace hH := Hp.kp (Dw := Dw) hH hk213
  replace hK := Tr.trans (Dw := Dw) hK ht214
  replace hB := Nat.le_trans hB ht214.ex.size
  replace hA := ht214.new
  obtain ⟨x215, hx215, hm⟩ := Option.bind_eq_some_iff.1 hm
  refine V_appendH (Dw := Dw) (e := 43) (v := v8) (l := s2.1) (ti := Tryd.t43) (bytes := 72) (lim := 1954687338268) hH (i := 0) rfl h212 hx215 Tryd.underlying25 Tryd_info43 rfl rfl rfl rfl (by decide) (by decide) (by decide) hB hA rfl rfl rfl ?_
  intro v216 w217 A218 hH219 ht220
  replace h212 := Sl.tr (Dw := Dw) h212 ht220
  replace hK := Tr.trans (Dw := Dw) hK ht220
  replace hB := Nat.le_trans hB ht220.ex.size
  replace hA := ht220.new
  replace hH : Hp w.heap.size A218 w217 (obS (α := portref2_piece) 43 v216 x215 :: []) := hH219
  refine V_y (Y_assign rfl) rfl rfl rfl ?_
  refine V_y (Y_assign rfl) rfl rfl rfl ?_
  refine V_y (Y_assign rfl) rfl rfl rfl ?_
  refine V_to (fun _ _ => rfl) ?_
  obtain rfl := Option.some.inj hm
  refine C_ret ?_
  try simp only [↓inBlock_ret, ↓then_ret]
  exact retQ rfl (Res.three Tryd.results12 rfl rfl rfl) ⟨v216, rfl, (Hp.ownd hH (i := 0) rfl), hK.kp⟩

set_option maxRecDepth 4000 in
set_option maxHeartbeats 4000000 in
theorem portref2_TemplateFault_c (w : World) {A : Nat → Prop} (hA : ∀ b, w.heap.size ≤ b → A b) (hT : Mx Tryd.prog 0 A w) (s : ByteArray) {r : ((List portref2_piece) × Int × Int)} (hm : portref2_TemplateFault s = some r) : Ret Tryd.prog 5 #[.string s] w fun v w' => ∃ s0, v = .tuple #[s0, .int .i64 r.2.1, .int .i64 r.2.2] ∧ Sl A w' s0 r.1 ∧ Kp False w w' := by
  unfold portref2_TemplateFault at hm
  refine enter Tryd.func5 rfl Tryd.ntmps5 rfl ?_
  have hA0 := hA
  have hB := Nat.le_refl w.heap.size
  have hK : Tr False w.heap.size A w A w := Tr.refl (Dw := False) hA
  have hH : Hp w.heap.size A w [] := Hp.nil
  refine C_seq ?_
  refine C_region ?_
  refine V_y (Y_assign rfl) rfl rfl rfl ?_
  refine V_y (Y_assign rfl) rfl rfl rfl ?_
  refine V_y (Y_assign rfl) rfl rfl rfl ?_
  refine V_to (fun _ _ => rfl) ?_
  refine C_seq ?_
  refine C_seq ?_
  refine C_region ?_
  refine V_y (Y_move rfl) rfl rfl rfl ?_
  refine V_y (Y_lenStr rfl Tryd.underlying9 rfl) rfl rfl rfl ?_
  refine V_y (Y_gtr rfl rfl) rfl rfl rfl ?_
  refine V_to (fun _ _ => rfl) ?_
  refine C_cond rfl (fun hc1 => ?_) (fun hc1 => ?_)
  · rw [if_pos hc1] at hm
    refine C_seq ?_
    refine C_region ?_
    refine V_y (Y_assign rfl) rfl rfl rfl ?_
    refine V_y (Y_assign rfl) rfl rfl rfl ?_
    refine V_y (Y_assign rfl) rfl rfl rfl ?_
    refine V_to (fun _ _ => rfl) ?_
    obtain rfl := Option.some.inj hm
    refine C_ret ?_
    try simp only [↓inBlock_ret, ↓then_ret]
    exact retQ rfl (Res.three Tryd.results5 rfl rfl rfl) ⟨.slice none 0 0, rfl, Sl.nil, hK.kp⟩
  · rw [if_neg (nt hc1)] at hm
    refine C_skip_to (fun _ _ => rfl) ?_
    refine C_seq ?_
    refine C_seq ?_
    refine C_region ?_
    refine V_y (Y_move rfl) rfl rfl rfl ?_
    obtain ⟨x2, hx2, hm⟩ := Option.bind_eq_some_iff.1 hm
    refine V_call Tryd.call11 rfl rfl rfl rfl (strings_ReplaceAll_c w hA (Mx.tr (Dw := False) hT hK) s (⟨#[10]⟩ : ByteArray) (⟨#[]⟩ : ByteArray) hx2) ?_
    rintro _ w3 ⟨rfl, hk4⟩
    have ht5 := Kp.tr (Dw := False) hk4 hA hB
    replace hH := Hp.kp (Dw := False) hH hk4
    replace hK := Tr.trans (Dw := False) hK ht5
    replace hB := Nat.le_trans hB ht5.ex.size
    replace hA := ht5.new
    obtain ⟨x6, hx6, hm⟩ := Option.bind_eq_some_iff.1 hm
    refine V_call Tryd.call10 rfl rfl rfl rfl (portref2_lowByte_c w3 hA x2 hx6) ?_
    rintro _ w7 ⟨rfl, hk8⟩
    have ht9 := Kp.tr (Dw := False) hk8 hA hB
    replace hH := Hp.kp (Dw := False) hH hk8
    replace hK := Tr.trans (Dw := False) hK ht9
    replace hB := Nat.le_trans hB ht9.ex.size
    replace hA := ht9.new
    refine V_to (fun _ _ => rfl) ?_
    refine C_cond rfl (fun hc10 => ?_) (fun hc10 => ?_)
    · rw [if_pos hc10] at hm
      refine C_seq ?_
      refine C_region ?_
      refine V_y (Y_assign rfl) rfl rfl rfl ?_
      refine V_y (Y_assign rfl) rfl rfl rfl ?_
      refine V_y (Y_assign rfl) rfl rfl rfl ?_
      refine V_to (fun _ _ => rfl) ?_
      obtain rfl := Option.some.inj hm
      refine C_ret ?_
      try simp only [↓inBlock_ret, ↓then_ret]
      exact retQ rfl (Res.three Tryd.results5 rfl rfl rfl) ⟨.slice none 0 0, rfl, Sl.nil, hK.kp⟩
    · rw [if_neg (nt hc10)] at hm
      refine C_skip_to (fun _ _ => rfl) ?_
      refine C_seq ?_
      refine C_region ?_
      refine V_y (Y_move rfl) rfl rfl rfl ?_
      obtain ⟨x11, hx11, hm⟩ := Option.bind_eq_some_iff.1 hm
      refine V_call Tryd.call12 rfl rfl rfl rfl (portref2_templateOf_c (Dw := False) w7 hA s hx11) ?_
      rintro _ w14 ⟨v12, rfl, h13, hk15⟩
      obtain ⟨A16, ht17, hH18⟩ := Hp.addOwnd (Dw := False) hH hB hA hk15 h13
      replace hK := Tr.trans (Dw := False) hK ht17
      replace hB := Nat.le_trans hB ht17.ex.size
      replace hA := ht17.new
      replace hH : Hp w.heap.size A16 w14 (obS (α := portref2_piece) 43 v12 x11.1 :: []) := hH18
      refine V_y (Y_move rfl) rfl rfl rfl ?_
      refine V_y (Y_extract rfl rfl) rfl rfl rfl ?_
      refine V_y (Y_extract rfl rfl) rfl rfl rfl ?_
      refine V_y (Y_extract rfl rfl) rfl rfl rfl ?_
      refine V_y (Y_assign rfl) rfl rfl rfl ?_
      refine V_y (Y_assign rfl) rfl rfl rfl ?_
      refine V_y (Y_assign rfl) rfl rfl rfl ?_
      refine V_to (fun _ _ => rfl) ?_
      refine C_seq ?_
      refine C_seq ?_
      refine C_region ?_
      refine V_y (Y_move rfl) rfl rfl rfl ?_
      refine V_y (Y_not rfl) rfl rfl rfl ?_
      refine V_to (fun _ _ => rfl) ?_
      refine C_cond rfl (fun hc19 => ?_) (fun hc19 => ?_)
      · rw [if_pos hc19] at hm
        refine C_seq ?_
        refine C_region ?_
        refine V_y (Y_move rfl) rfl rfl rfl ?_
        refine V_y (Y_assign rfl) rfl rfl rfl ?_
        refine V_y (Y_assign rfl) rfl rfl rfl ?_
        refine V_y (Y_assign rfl) rfl rfl rfl ?_
        refine V_to (fun _ _ => rfl) ?_
        obtain rfl := Option.some.inj hm
        refine C_ret ?_
        try simp only [↓inBlock_ret, ↓then_ret]
        exact retQ rfl (Res.three Tryd.results5 rfl rfl rfl) ⟨.slice none 0 0, rfl, Sl.nil, hK.kp⟩
      · rw [if_neg (nt hc19)] at hm
        refine C_skip_to (fun _ _ => rfl) ?_
        refine C_seq ?_
        refine C_seq ?_
        refine C_region ?_
        refine V_y (Y_move rfl) rfl rfl rfl ?_
        refine V_y (Y_lenSl (Hp.any (α := portref2_piece) (e := 43) (v := v12) (l := x11.1) hH (i := 0) rfl) rfl Tryd.underlying25 rfl) rfl rfl rfl ?_
        refine V_y (Y_quo (by rw [quo, if_neg (by decide)]) rfl rfl) rfl rfl rfl ?_
        refine V_y (Y_gtr rfl rfl) rfl rfl rfl ?_
        refine V_to (fun _ _ => rfl) ?_
        refine C_cond rfl (fun hc20 => ?_) (fun hc20 => ?_)
        · rw [if_pos hc20] at hm
          refine C_seq ?_
          refine C_region ?_
          refine V_y (Y_assign rfl) rfl rfl rfl ?_
          refine V_y (Y_assign rfl) rfl rfl rfl ?_
          refine V_y (Y_assign rfl) rfl rfl rfl ?_
          refine V_to (fun _ _ => rfl) ?_
          obtain rfl := Option.some.inj hm
          refine C_ret ?_
          try simp only [↓inBlock_ret, ↓then_ret]
          exact retQ rfl (Res.three Tryd.results5 rfl rfl rfl) ⟨.slice none 0 0, rfl, Sl.nil, hK.kp⟩
        · rw [if_neg (nt hc20)] at hm
          refine C_skip_to (fun _ _ => rfl) ?_
          refine C_seq ?_
          refine C_region ?_
          refine V_y (Y_move rfl) rfl rfl rfl ?_
          refine V_y (Y_assign rfl) rfl rfl rfl ?_
          refine V_y (Y_assign rfl) rfl rfl rfl ?_
          refine V_y (Y_assign rfl) rfl rfl rfl ?_
          refine V_to (fun _ _ => rfl) ?_
          obtain rfl := Option.some.inj hm
          obtain ⟨A21, ht22, h23, hH24⟩ := Hp.freeze (Dw := False) (α := portref2_piece) (v := v12) (l := x11.1) hH (i := 0) rfl hA
          replace hK := Tr.trans (Dw := False) hK ht22
          replace hB := Nat.le_trans hB ht22.ex.size
          replace hA := ht22.new
          replace hH : Hp w.heap.size A21 w14 ([]) := hH24
          refine C_ret ?_
          try simp only [↓inBlock_ret, ↓then_ret]
          exact retQ rfl (Res.three Tryd.results5 rfl rfl rfl) ⟨v12, rfl, (Sl.out (Dw := False) h23 hA0 hK), hK.kp⟩

def Tryd_cp14_ren : Go.Shelf.Ren := ⟨fun | 125 => 24 | 128 => 44 | 129 => 45 | 190 => 14 | 258 => 23 | 302 => 35 | 303 => 36 | 304 => 37 | 305 => 38 | 306 => 39 | 307 => 40 | 308 => 41 | 309 => 42 | 310 => 43 | 329 => 60 | 330 => 61 | 333 => 59 | 334 => 62 | 335 => 63 | 336 => 64 | 344 => 71 | n => n, fun | 0 => 0 | 1 => 1 | 2 => 2 | 3 => 3 | 4 => 4 | 5 => 5 | 6 => 6 | 7 => 7 | 8 => 8 | 9 => 9 | 10 => 10 | 11 => 11 | 12 => 12 | 13 => 13 | 14 => 14 | 15 => 15 | 16 => 16 | 17 => 17 | 18 => 18 | 19 => 19 | 20 => 20 | 21 => 21 | 22 => 81 | 27 => 64 | 31 => 28 | 37 => 66 | 40 => 48 | 41 => 92 | 46 => 57 | 47 => 56 | 51 => 86 | 52 => 85 | 53 => 88 | 54 => 87 | 55 => 50 | 65 => 49 | 66 => 36 | 69 => 89 | 70 => 65 | 71 => 67 | 72 => 68 | 73 => 69 | 74 => 70 | 75 => 71 | 76 => 72 | 77 => 73 | 78 => 90 | 80 => 61 | 81 => 120 | 100 => 40 | 101 => 31 | 102 => 41 | 103 => 94 | 104 => 32 | 105 => 74 | 106 => 75 | 114 => 105 | 119 => 106 | 127 => 95 | 131 => 83 | 135 => 55 | 137 => 107 | 138 => 108 | 139 => 109 | 146 => 113 | 151 => 114 | 155 => 93 | 164 => 102 | 165 => 103 | 166 => 104 | 182 => 77 | 183 => 78 | 188 => 76 | 189 => 79 | 190 => 80 | 191 => 82 | 192 => 84 | 218 => 96 | 219 => 97 | 220 => 98 | 222 => 100 | 224 => 99 | 225 => 101 | 228 => 110 | 229 => 111 | 231 => 112 | 238 => 115 | 239 => 116 | 240 => 117 | 241 => 118 | 242 => 119 | 243 => 121 | 244 => 122 | 245 => 123 | 246 => 124 | 247 => 125 | 248 => 126 | 249 => 127 | n => n, fun | 1 => 0 | 3 => 1 | 4 => 2 | n => n⟩
theorem Tryd_cp14_lay : Go.Proofs.Lays.n190 Tryd.prog Tryd_cp14_ren := {
  mixed := by kernel_rfl,
  f125 := Tryd.func24.trans (congrArg some (by kernel_rfl)),
  f128 := Tryd.func44.trans (congrArg some (by kernel_rfl)),
  f129 := Tryd.func45.trans (congrArg some (by kernel_rfl)),
  f190 := Tryd.func14.trans (congrArg some (by kernel_rfl)),
  f258 := Tryd.func23.trans (congrArg some (by kernel_rfl)),
  f302 := Tryd.func35.trans (congrArg some (by kernel_rfl)),
  f303 := Tryd.func36.trans (congrArg some (by kernel_rfl)),
  f304 := Tryd.func37.trans (congrArg some (by kernel_rfl)),
  f305 := Tryd.func38.trans (congrArg some (by kernel_rfl)),
  f306 := Tryd.func39.trans (congrArg some (by kernel_rfl)),
  f307 := Tryd.func40.trans (congrArg some (by kernel_rfl)),
  f308 := Tryd.func41.trans (congrArg some (by kernel_rfl)),
  f309 := Tryd.func42.trans (congrArg some (by kernel_rfl)),
  f310 := Tryd.func43.trans (congrArg some (by kernel_rfl)),
  f329 := Tryd.func60.trans (congrArg some (by kernel_rfl)),
  f330 := Tryd.func61.trans (congrArg some (by kernel_rfl)),
  f333 := Tryd.func59.trans (congrArg some (by kernel_rfl)),
  f334 := Tryd.func62.trans (congrArg some (by kernel_rfl)),
  f335 := Tryd.func63.trans (congrArg some (by kernel_rfl)),
  f336 := Tryd.func64.trans (congrArg some (by kernel_rfl)),
  f344 := Tryd.func71.trans (congrArg some (by kernel_rfl)),
  t0 := Tryd.underlying0,
  a0 := Tryd.isAgg0,
  z0 := Tryd.sizeOf0,
  v0 := Tryd.zeroValue0,
  t3 := Tryd.underlying3,
  a3 := Tryd.isAgg3,
  z3 := Tryd.sizeOf3,
  v3 := Tryd.zeroValue3,
  t4 := Tryd.underlying4,
  a4 := Tryd.isAgg4,
  z4 := Tryd.sizeOf4,
  v4 := Tryd.zeroValue4,
  t5 := Tryd.underlying5,
  a5 := Tryd.isAgg5,
  z5 := Tryd.sizeOf5,
  v5 := Tryd.zeroValue5,
  t9 := Tryd.underlying9,
  a9 := Tryd.isAgg9,
  z9 := Tryd.sizeOf9,
  v9 := Tryd.zeroValue9,
  t31 := Tryd.underlying28,
  a31 := Tryd.isAgg28,
  z31 := Tryd.sizeOf28,
  v31 := Tryd.zeroValue28,
  t46 := Tryd.underlying57,
  a46 := Tryd.isAgg57,
  z46 := Tryd.sizeOf57,
  v46 := Tryd.zeroValue57,
  t51 := Tryd.underlying86,
  a51 := Tryd.isAgg86,
  z51 := Tryd.sizeOf86,
  v51 := Tryd.zeroValue86,
  t53 := Tryd.underlying88,
  a53 := Tryd.isAgg88,
  z53 := Tryd.sizeOf88,
  v53 := Tryd.zeroValue88,
  t131 := Tryd.underlying83,
  a131 := Tryd.isAgg83,
  z131 := Tryd.sizeOf83,
  v131 := Tryd.zeroValue83,
  t182 := Tryd.underlying77,
  a182 := Tryd.isAgg77,
  z182 := Tryd.sizeOf77,
  v182 := Tryd.zeroValue77,
  t183 := Tryd.underlying78,
  a183 := Tryd.isAgg78,
  z183 := Tryd.sizeOf78,
  v183 := Tryd.zeroValue78,
  t218 := Tryd.underlying96,
  a218 := Tryd.isAgg96,
  z218 := Tryd.sizeOf96,
  v218 := Tryd.zeroValue96,
  t222 := Tryd.underlying100,
  a222 := Tryd.isAgg100,
  z222 := Tryd.sizeOf100,
  v222 := Tryd.zeroValue100,
  t228 := Tryd.underlying110,
  a228 := Tryd.isAgg110,
  z228 := Tryd.sizeOf110,
  v228 := Tryd.zeroValue110,
  t229 := Tryd.underlying111,
  a229 := Tryd.isAgg111,
  z229 := Tryd.sizeOf111,
  v229 := Tryd.zeroValue111 }
theorem Tryd_cp14 {l r : List ByteArray} {B : Nat} {A : Nat → Prop} {w : World} {L : List Ob} {i : Nat} {v : Value} (hH : Hp B A w L) (hi : L[i]? = some (obS (α := ByteArray) 9 v l)) (hB : B ≤ w.heap.size) (hA : ∀ b, w.heap.size ≤ b → A b) (hr : sortStrsL l = some r) : Ret Tryd.prog 14 #[v] w fun u w' => u = .tuple #[] ∧ Hp B A w' (L.set i (obS (α := ByteArray) 9 v r)) ∧ Tr Dw B A w A w' :=
  Hp.sortStrs (Dw := Dw) (fun _ => rfl) (fun a c w => Go.Proofs.Any.slices_Sort_string_none Tryd_cp14_lay a c w) (fun blk off cap zs w h1 h2 h3 => Go.Proofs.Any.slices_Sort_string Tryd_cp14_lay blk off cap zs w h1 h2 h3) hH hi hB hA hr

def Tryd_cp15_ren : Go.Shelf.Ren := ⟨fun | 194 => 15 | n => n, fun | 0 => 0 | 1 => 1 | 2 => 2 | 3 => 3 | 4 => 4 | 5 => 5 | 6 => 6 | 7 => 7 | 8 => 8 | 9 => 9 | 10 => 10 | 11 => 11 | 12 => 12 | 13 => 13 | 14 => 14 | 15 => 15 | 16 => 16 | 17 => 17 | 18 => 18 | 19 => 19 | 20 => 20 | 21 => 21 | 22 => 81 | 27 => 64 | 31 => 28 | 37 => 66 | 40 => 48 | 41 => 92 | 46 => 57 | 47 => 56 | 51 => 86 | 52 => 85 | 53 => 88 | 54 => 87 | 55 => 50 | 65 => 49 | 66 => 36 | 69 => 89 | 70 => 65 | 71 => 67 | 72 => 68 | 73 => 69 | 74 => 70 | 75 => 71 | 76 => 72 | 77 => 73 | 78 => 90 | 80 => 61 | 81 => 120 | 100 => 40 | 101 => 31 | 102 => 41 | 103 => 94 | 104 => 32 | 105 => 74 | 106 => 75 | 114 => 105 | 119 => 106 | 127 => 95 | 131 => 83 | 135 => 55 | 137 => 107 | 138 => 108 | 139 => 109 | 146 => 113 | 151 => 114 | 155 => 93 | 164 => 102 | 165 => 103 | 166 => 104 | 182 => 77 | 183 => 78 | 188 => 76 | 189 => 79 | 190 => 80 | 191 => 82 | 192 => 84 | 218 => 96 | 219 => 97 | 220 => 98 | 222 => 100 | 224 => 99 | 225 => 101 | 228 => 110 | 229 => 111 | 231 => 112 | 238 => 115 | 239 => 116 | 240 => 117 | 241 => 118 | 242 => 119 | 243 => 121 | 244 => 122 | 245 => 123 | 246 => 124 | 247 => 125 | 248 => 126 | 249 => 127 | n => n, fun | 1 => 0 | 3 => 1 | 4 => 2 | n => n⟩
theorem Tryd_cp15_lay : Go.Proofs.Lays.n194 Tryd.prog Tryd_cp15_ren := {
  mixed := by kernel_rfl,
  f194 := Tryd.func15.trans (congrArg some (by kernel_rfl)),
  t0 := Tryd.underlying0,
  a0 := Tryd.isAgg0,
  z0 := Tryd.sizeOf0,
  v0 := Tryd.zeroValue0,
  t3 := Tryd.underlying3,
  a3 := Tryd.isAgg3,
  z3 := Tryd.sizeOf3,
  v3 := Tryd.zeroValue3,
  t4 := Tryd.underlying4,
  a4 := Tryd.isAgg4,
  z4 := Tryd.sizeOf4,
  v4 := Tryd.zeroValue4,
  t9 := Tryd.underlying9,
  a9 := Tryd.isAgg9,
  z9 := Tryd.sizeOf9,
  v9 := Tryd.zeroValue9,
  t31 := Tryd.underlying28,
  a31 := Tryd.isAgg28,
  z31 := Tryd.sizeOf28,
  v31 := Tryd.zeroValue28 }
theorem Tryd_cp15 {l r : List ByteArray} {B : Nat} {A : Nat → Prop} {w : World} {L : List Ob} {i : Nat} {v : Value} (hH : Hp B A w L) (hi : L[i]? = some (obS (α := ByteArray) 9 v l)) (hB : B ≤ w.heap.size) (hA : ∀ b, w.heap.size ≤ b → A b) (hr : compactStrsL l = some r) : Ret Tryd.prog 15 #[v] w fun u w' => ∃ v', u = v' ∧ Hp B A w' (L.set i (obS (α := ByteArray) 9 v' r)) ∧ Tr Dw B A w A w' :=
  Hp.compactStrs (Dw := Dw) (fun _ => rfl) (fun a c w => Go.Proofs.Any.slices_Compact_string_empty Tryd_cp15_lay a c w) (fun blk off cap zs w h1 h2 h3 => Go.Proofs.Any.slices_Compact_string Tryd_cp15_lay blk off cap zs w h1 h2 h3) hH hi hB hA hr

set_option maxRecDepth 4000 in
set_option maxHeartbeats 4000000 in
theorem know_Fields_c (w : World) {A : Nat → Prop} (hA : ∀ b, w.heap.size ≤ b → A b) (s : ByteArray) {r : ((List ByteArray) × Int)} (hm : know_Fields s = some r) : Ret Tryd.prog 6 #[.string s] w fun v w' => ∃ s0, v = .tuple #[s0, .int .i64 r.2] ∧ Ownd 9 w w' s0 r.1 ∧ Kp False w w' := by
  unfold know_Fields at hm
  refine enter Tryd.func6 rfl Tryd.ntmps6 rfl ?_
  have hA0 := hA
  have hB := Nat.le_refl w.heap.size
  have hK : Tr False w.heap.size A w A w := Tr.refl (Dw := False) hA
  have hH : Hp w.heap.size A w [] := Hp.nil
  refine C_seq ?_
  refine C_region ?_
  refine V_y (Y_assign rfl) rfl rfl rfl ?_
  refine V_y (Y_assign rfl) rfl rfl rfl ?_
  refine V_to (fun _ _ => rfl) ?_
  refine C_seq ?_
  refine C_region ?_
  refine V_y (Y_move rfl) rfl rfl rfl ?_
  obtain ⟨x1, hx1, hm⟩ := Option.bind_eq_some_iff.1 hm
  refine V_call Tryd.call9 rfl rfl rfl rfl (know_template_c w hA s hx1) ?_
  rintro _ w4 ⟨v2, rfl, h3, hk5⟩
  have ht6 := Kp.tr (Dw := False) hk5 hA hB
  replace hH := Hp.kp (Dw := False) hH hk5
  replace hK := Tr.trans (Dw := False) hK ht6
  replace hB := Nat.le_trans hB ht6.ex.size
  replace hA := ht6.new
  refine V_y (Y_move rfl) rfl rfl rfl ?_
  refine V_y (Y_extract rfl rfl) rfl rfl rfl ?_
  refine V_y (Y_extract rfl rfl) rfl rfl rfl ?_
  refine V_y (Y_extract rfl rfl) rfl rfl rfl ?_
  refine V_y (Y_assign rfl) rfl rfl rfl ?_
  refine V_y (Y_assign rfl) rfl rfl rfl ?_
  refine V_y (Y_assign rfl) rfl rfl rfl ?_
  refine V_to (fun _ _ => rfl) ?_
  refine C_seq ?_
  refine C_seq ?_
  refine C_region ?_
  refine V_y (Y_move rfl) rfl rfl rfl ?_
  refine V_y (Y_neq rfl rfl) rfl rfl rfl ?_
  refine V_to (fun _ _ => rfl) ?_
  refine C_cond rfl (fun hc7 => ?_) (fun hc7 => ?_)
  · rw [if_pos hc7] at hm
    refine C_seq ?_
    refine C_region ?_
    refine V_y (Y_move rfl) rfl rfl rfl ?_
    refine V_y (Y_assign rfl) rfl rfl rfl ?_
    refine V_y (Y_assign rfl) rfl rfl rfl ?_
    refine V_to (fun _ _ => rfl) ?_
    obtain rfl := Option.some.inj hm
    replace hH : Hp w.heap.size A w4 (obS (α := ByteArray) 9 (.slice none 0 0) ([] : (List ByteArray)) :: []) := Hp.addNil (α := ByteArray) (e := 9) hH
    refine C_ret ?_
    try simp only [↓inBlock_ret, ↓then_ret]
    exact retQ rfl (Res.two Tryd.results6 rfl rfl) ⟨.slice none 0 0, rfl, (Hp.ownd hH (i := 0) rfl), hK.kp⟩
  · rw [if_neg (nt hc7)] at hm
    refine C_skip_to (fun _ _ => rfl) ?_
    refine C_seq ?_
    refine C_region ?_
    refine V_y (Y_move rfl) rfl rfl rfl ?_
    obtain ⟨x8, hx8, hm⟩ := Option.bind_eq_some_iff.1 hm
    refine V_call Tryd.call13 rfl rfl rfl rfl (know_names_c (Dw := False) w4 hA x1.1 v2 h3 hx8) ?_
    rintro v9 w11 ⟨_, rfl, h10, hk12⟩
    obtain ⟨A13, ht14, hH15⟩ := Hp.addOwnd (Dw := False) hH hB hA hk12 h10
    replace h3 := Sl.tr (Dw := False) h3 ht14
    replace hK := Tr.trans (Dw := False) hK ht14
    replace hB := Nat.le_trans hB ht14.ex.size
    replace hA := ht14.new
    replace hH : Hp w.heap.size A13 w11 (obS (α := ByteArray) 9 v9 x8 :: []) := hH15
    refine V_y (Y_assign rfl) rfl rfl rfl ?_
    refine V_to (fun _ _ => rfl) ?_
    refine C_seq ?_
    refine C_region ?_
    refine V_y (Y_move rfl) rfl rfl rfl ?_
    obtain ⟨x16, hx16, hm⟩ := Option.bind_eq_some_iff.1 hm
    refine V_call Tryd.call14 rfl rfl rfl rfl (Tryd_cp14 (Dw := False) hH (i := 0) rfl hB hA hx16) ?_
    rintro _ w17 ⟨rfl, hH18, ht19⟩
    replace hK := Tr.trans (Dw := False) hK ht19
    replace hB := Nat.le_trans hB ht19.ex.size
    replace hA := ht19.new
    replace hH : Hp w.heap.size A13 w17 (obS (α := ByteArray) 9 v9 x16 :: []) := hH18
    refine V_to (fun _ _ => rfl) ?_
    refine C_seq ?_
    refine C_region ?_
    refine V_y (Y_move rfl) rfl rfl rfl ?_
    obtain ⟨x20, hx20, hm⟩ := Option.bind_eq_some_iff.1 hm
    refine V_call Tryd.call15 rfl rfl rfl rfl (Tryd_cp15 (Dw := False) hH (i := 0) rfl hB hA hx20) ?_
    rintro v24 w21 ⟨_, rfl, hH22, ht23⟩
    replace hK := Tr.trans (Dw := False) hK ht23
    replace hB := Nat.le_trans hB ht23.ex.size
    replace hA := ht23.new
    replace hH : Hp w.heap.size A13 w21 (obS (α := ByteArray) 9 v24 x20 :: []) := hH22
    refine V_y (Y_assign rfl) rfl rfl rfl ?_
    refine V_y (Y_assign rfl) rfl rfl rfl ?_
    refine V_to (fun _ _ => rfl) ?_
    obtain rfl := Option.some.inj hm
    refine C_ret ?_
    try simp only [↓inBlock_ret, ↓then_ret]
    exact retQ rfl (Res.two Tryd.results6 rfl rfl) ⟨v24, rfl, (Hp.ownd hH (i := 0) rfl), hK.kp⟩

set_option maxRecDepth 4000 in
set_option maxHeartbeats 4000000 in
theorem portref2_FieldsOf_c (w : World) {A : Nat → Prop} (hA : ∀ b, w.heap.size ≤ b → A b) (hT : Mx Tryd.prog 0 A w) (s : ByteArray) {r : ((List ByteArray) × Int)} (hm : portref2_FieldsOf s = some r) : Ret Tryd.prog 7 #[.string s] w fun v w' => ∃ s0, v = .tuple #[s0, .int .i64 r.2] ∧ Ownd 9 w w' s0 r.1 ∧ Kp False w w' := by
  unfold portref2_FieldsOf at hm
  refine enter Tryd.func7 rfl Tryd.ntmps7 rfl ?_
  have hA0 := hA
  have hB := Nat.le_refl w.heap.size
  have hK : Tr False w.heap.size A w A w := Tr.refl (Dw := False) hA
  have hH : Hp w.heap.size A w [] := Hp.nil
  refine C_seq ?_
  refine C_region ?_
  refine V_y (Y_assign rfl) rfl rfl rfl ?_
  refine V_y (Y_assign rfl) rfl rfl rfl ?_
  refine V_to (fun _ _ => rfl) ?_
  refine C_seq ?_
  refine C_region ?_
  refine V_y (Y_move rfl) rfl rfl rfl ?_
  obtain ⟨x1, hx1, hm⟩ := Option.bind_eq_some_iff.1 hm
  refine V_call Tryd.call5 rfl rfl rfl rfl (portref2_TemplateFault_c w hA (Mx.tr (Dw := False) hT hK) s hx1) ?_
  rintro _ w4 ⟨v2, rfl, h3, hk5⟩
  have ht6 := Kp.tr (Dw := False) hk5 hA hB
  replace hH := Hp.kp (Dw := False) hH hk5
  replace hK := Tr.trans (Dw := False) hK ht6
  replace hB := Nat.le_trans hB ht6.ex.size
  replace hA := ht6.new
  refine V_y (Y_move rfl) rfl rfl rfl ?_
  refine V_y (Y_extract rfl rfl) rfl rfl rfl ?_
  refine V_y (Y_extract rfl rfl) rfl rfl rfl ?_
  refine V_y (Y_extract rfl rfl) rfl rfl rfl ?_
  refine V_y (Y_assign rfl) rfl rfl rfl ?_
  refine V_y (Y_assign rfl) rfl rfl rfl ?_
  refine V_y (Y_assign rfl) rfl rfl rfl ?_
  refine V_to (fun _ _ => rfl) ?_
  refine C_seq ?_
  refine C_seq ?_
  refine C_region ?_
  refine V_y (Y_move rfl) rfl rfl rfl ?_
  refine V_y (Y_neq rfl rfl) rfl rfl rfl ?_
  refine V_to (fun _ _ => rfl) ?_
  refine C_cond rfl (fun hc7 => ?_) (fun hc7 => ?_)
  · rw [if_pos hc7] at hm
    refine C_seq ?_
    refine C_region ?_
    refine V_y (Y_move rfl) rfl rfl rfl ?_
    refine V_y (Y_assign rfl) rfl rfl rfl ?_
    refine V_y (Y_assign rfl) rfl rfl rfl ?_
    refine V_to (fun _ _ => rfl) ?_
    obtain rfl := Option.some.inj hm
    replace hH : Hp w.heap.size A w4 (obS (α := ByteArray) 9 (.slice none 0 0) ([] : (List ByteArray)) :: []) := Hp.addNil (α := ByteArray) (e := 9) hH
    refine C_ret ?_
    try simp only [↓inBlock_ret, ↓then_ret]
    exact retQ rfl (Res.two Tryd.results7 rfl rfl) ⟨.slice none 0 0, rfl, (Hp.ownd hH (i := 0) rfl), hK.kp⟩
  · rw [if_neg (nt hc7)] at hm
    refine C_skip_to (fun _ _ => rfl) ?_
    refine C_seq ?_
    refine C_region ?_
    refine V_y (Y_assign rfl) rfl rfl rfl ?_
    refine V_to (fun _ _ => rfl) ?_
    refine C_seq ?_
    refine C_seq ?_
    refine C_region ?_
    refine V_y (Y_move rfl) rfl rfl rfl ?_
    refine V_y (Y_lenSl h3 rfl Tryd.underlying25 rfl) rfl rfl rfl ?_
    refine V_y (Y_move rfl) rfl rfl rfl ?_
    refine V_to (fun _ _ => rfl) ?_
    replace hH : Hp w.heap.size A w4 (obS (α := ByteArray) 9 (.slice none 0 0) ([] : (List ByteArray)) :: []) := Hp.addNil (α := ByteArray) (e := 9) hH
    have hn32 := Sl.le h3
    obtain ⟨o8, ho8, hm⟩ := Option.bind_eq_some_iff.1 hm
    refine C_cutG (ι := ((List ByteArray) × Value × (Nat → Prop))) (fun ⟨s9, v15, A17⟩ => [(7, v15)]) (fun ⟨s9, v15, A17⟩ => fun w' => o8 = .fin s9 ∧ Hp w.heap.size A17 w' (obS (α := ByteArray) 9 v15 s9 :: []) ∧ Tr False w.heap.size A w4 A17 w') ?_ ?_
    · refine C_block ?_
      refine C_range ho8 (fun k11 s19 a w' => ∃ i : (Value × (Nat → Prop)), Has ⟨38, [], none⟩ a ([(7, i.1), (19, v2), (20, .int .i64 (x1.1.length : Int)), (21, .int .i64 (k11 : Int))]) ∧ Hp w.heap.size i.2 w' (obS (α := ByteArray) 9 i.1 s19 :: []) ∧ Tr False w.heap.size A w4 i.2 w') (fun a ha => ⟨(.slice none 0 0, A), ha.sub ⟨rfl, rfl, rfl, rfl, trivial⟩, ⟨hH, Tr.refl (Dw := False) hA⟩⟩) ?_
      rintro K k11 s19 a w20 ⟨⟨v21, A23⟩, ha86, hH24, hr10⟩ hle28 K31 h30
      refine C_of ?_ ha86
      replace h3 := Sl.tr (Dw := False) h3 hr10
      replace hK := Tr.trans (Dw := False) hK hr10
      replace hB := Nat.le_trans hB hr10.ex.size
      replace hA := hr10.new
      replace hH : Hp w.heap.size A23 w20 (obS (α := ByteArray) 9 v21 s19 :: []) := hH24
      refine C_seq (C_region (V_y (Y_lss rfl rfl) rfl rfl rfl (V_to (fun _ _ => rfl) ?_)))
      refine C_seq ?_
      refine C_cond rfl (fun hc33 => ?_) (fun hc33 => ?_)
      · have hlt29 := lt_of_dec hc33
        obtain ⟨x25, h26, h27⟩ := K31 hlt29
        refine C_skip_to (fun _ _ => rfl) ?_
        refine C_seq ?_
        obtain ⟨s35, ho34, h26⟩ := Option.bind_eq_some_iff.1 h26
        refine C_cutG (ι := (Value × (Nat → Prop))) (fun ⟨v37, A42⟩ => [(7, v37), (19, v2), (20, .int .i64 (x1.1.length : Int)), (21, .int .i64 (k11 : Int))]) (fun ⟨v37, A42⟩ => fun w' => Hp w.heap.size A42 w' (obS (α := ByteArray) 9 v37 s35 :: []) ∧ Tr False w.heap.size A23 w20 A42 w') ?_ ?_
        · have hr36 : Tr False w.heap.size A23 w20 A23 w20 := Tr.refl (Dw := False) hA
          refine C_block ?_
          refine C_seq ?_
          refine C_region ?_
          obtain ⟨x44, hx44, ho34⟩ := Option.bind_eq_some_iff.1 ho34
          refine V_indexAddr h3 hx44 Tryd.underlying25 Tryd.sizeOf43 rfl rfl rfl ?_
          intro b45 o46 h47
          obtain ⟨h48, _⟩ := El_portref2_piece h47
          refine V_y (Y_loadA h48 Tryd.isAgg43 Tryd.sizeOf43 rfl) rfl rfl rfl ?_
          refine V_alloc Tryd.zeroValue43 rfl ?_
          intro b49 w50 h51
          refine V_storeNew h51 Tryd.sizeOf43 rfl rfl rfl rfl (by exact (List.forall_mem_cons.2 ⟨rfl, (List.forall_mem_cons.2 ⟨rfl, (List.forall_mem_cons.2 ⟨rfl, (List.forall_mem_cons.2 ⟨rfl, (List.forall_mem_cons.2 ⟨rfl, (fun _ h => nomatch h)⟩)⟩)⟩)⟩)⟩)) ?_
          intro w52 h53
          have hk55 := h53.kp (Dw := False)
          have h54 : El (α := portref2_piece) A23 w52 b49 0 x44 := h53.el hA ⟨[.string x44.text], _, rfl, rfl, ⟨[.string x44.name], _, rfl, rfl, ⟨[.int .u8 (x44.kind.toNat : Int)], _, rfl, rfl, ⟨[.string x44.one], _, rfl, rfl, rfl⟩⟩⟩⟩
          have ht56 := Kp.tr (Dw := False) hk55 hA hB
          replace hH := Hp.kp (Dw := False) hH hk55
          replace h3 := Sl.tr (Dw := False) h3 ht56
          replace h47 := El.tr (Dw := False) h47 ht56
          replace hK := Tr.trans (Dw := False) hK ht56
          replace hr10 := Tr.trans (Dw := False) hr10 ht56
          replace hr36 := Tr.trans (Dw := False) hr36 ht56
          replace hB := Nat.le_trans hB ht56.ex.size
          replace hA := ht56.new
          refine V_to (fun _ _ => rfl) ?_
          refine C_seq ?_
          refine C_region ?_
          have h57 := El_portref2_piece_2 h54
          refine V_y (Y_fieldAddr Tryd.underlying43 rfl Tryd.sizeOf5 (by decide) rfl) rfl rfl rfl ?_
          refine V_y (Y_load (El.u8 h57) Tryd.isAgg5 rfl) rfl rfl rfl ?_
          refine V_y (Y_neq rfl rfl) rfl rfl rfl ?_
          refine V_to (fun _ _ => rfl) ?_
          obtain ⟨s59, ho58, ho34⟩ := Option.bind_eq_some_iff.1 ho34
          refine C_cutG (ι := (Value × (Nat → Prop))) (fun ⟨v61, A66⟩ => [(7, v61), (19, v2), (20, .int .i64 (x1.1.length : Int)), (21, .int .i64 (k11 : Int))]) (fun ⟨v61, A66⟩ => fun w' => Hp w.heap.size A66 w' (obS (α := ByteArray) 9 v61 s59 :: []) ∧ Tr False w.heap.size A23 w52 A66 w') ?_ ?_
          · have hr60 : Tr False w.heap.size A23 w52 A23 w52 := Tr.refl (Dw := False) hA
            refine C_cond rfl (fun hc68 => ?_) (fun hc68 => ?_)
            · rw [if_pos hc68] at ho58
              refine C_region ?_
              refine V_y (Y_move rfl) rfl rfl rfl ?_
              have h69 := El_portref2_piece_1 h54
              refine V_y (Y_fieldAddr Tryd.underlying43 rfl Tryd.sizeOf9 (by decide) rfl) rfl rfl rfl ?_
              refine V_y (Y_load (El.str h69) Tryd.isAgg9 rfl) rfl rfl rfl ?_
              refine V_buildSlice (Dw := False) (l := ([x44.name] : List ByteArray)) (len := 1) Tryd.underlying28 Tryd.sizeOf9 Tryd.zeroValue9 rfl (by with_unfolding_all rfl) (show (1 * 1 : Nat) ≠ 0 by decide) (show (1 * 1 : Nat) ≤ 2 ^ 24 by decide) hA ⟨[.string x44.name], _, rfl, rfl, rfl⟩ rfl rfl ?_
              intro v70 w71 hk73 h72
              have ht74 := Kp.tr (Dw := False) hk73 hA hB
              replace hH := Hp.kp (Dw := False) hH hk73
              replace h3 := Sl.tr (Dw := False) h3 ht74
              replace h54 := El.tr (Dw := False) h54 ht74
              replace h69 := El.tr (Dw := False) h69 ht74
              replace hK := Tr.trans (Dw := False) hK ht74
              replace hr10 := Tr.trans (Dw := False) hr10 ht74
              replace hr36 := Tr.trans (Dw := False) hr36 ht74
              replace hr60 := Tr.trans (Dw := False) hr60 ht74
              replace hB := Nat.le_trans hB ht74.ex.size
              replace hA := ht74.new
              obtain ⟨x75, hx75, ho58⟩ := Option.bind_eq_some_iff.1 ho58
              refine V_appendH (Dw := False) (e := 9) (v := v21) (l := s19) (ti := Tryd.t9) (bytes := 16) (lim := 8796093022208) hH (i := 0) rfl h72 hx75 Tryd.underlying28 Tryd_info9 rfl rfl rfl rfl (by decide) (by decide) (by decide) hB hA rfl rfl rfl ?_
              intro v76 w77 A78 hH79 ht80
              replace h3 := Sl.tr (Dw := False) h3 ht80
              replace h54 := El.tr (Dw := False) h54 ht80
              replace h69 := El.tr (Dw := False) h69 ht80
              replace h72 := Sl.tr (Dw := False) h72 ht80
              replace hK := Tr.trans (Dw := False) hK ht80
              replace hr10 := Tr.trans (Dw := False) hr10 ht80
              replace hr36 := Tr.trans (Dw := False) hr36 ht80
              replace hr60 := Tr.trans (Dw := False) hr60 ht80
              replace hB := Nat.le_trans hB ht80.ex.size
              replace hA := ht80.new
              replace hH : Hp w.heap.size A78 w77 (obS (α := ByteArray) 9 v76 x75 :: []) := hH79
              refine V_y (Y_assign rfl) rfl rfl rfl ?_
              obtain rfl := Option.some.inj ho58
              refine V_end (fun a ha81 => ?_)
              exact ⟨(v76, A78), ha81.sub ⟨rfl, rfl, rfl, rfl, trivial⟩, ⟨hH, hr60⟩⟩
            · rw [if_neg (nt hc68)] at ho58
              obtain rfl := Option.some.inj ho58
              refine C_skip (fun a ha82 => ?_)
              exact ⟨(v21, A23), ha82.sub ⟨rfl, rfl, rfl, rfl, trivial⟩, ⟨hH, hr60⟩⟩
          rintro ⟨v61, A66⟩ w63 ⟨hH67, hk64⟩ a ha65
          replace h3 := Sl.tr (Dw := False) h3 hk64
          replace hK := Tr.trans (Dw := False) hK hk64
          replace hr10 := Tr.trans (Dw := False) hr10 hk64
          replace hr36 := Tr.trans (Dw := False) hr36 hk64
          replace hB := Nat.le_trans hB hk64.ex.size
          replace hA := hk64.new
          replace hH : Hp w.heap.size A66 w63 (obS (α := ByteArray) 9 v61 s59 :: []) := hH67
          obtain rfl := Option.some.inj ho34
          exact ⟨(v61, A66), ha65.sub ⟨rfl, rfl, rfl, rfl, trivial⟩, ⟨hH, hr36⟩⟩
        rintro ⟨v37, A42⟩ w39 ⟨hH43, hk40⟩ a ha41
        replace h3 := Sl.tr (Dw := False) h3 hk40
        replace hK := Tr.trans (Dw := False) hK hk40
        replace hr10 := Tr.trans (Dw := False) hr10 hk40
        replace hB := Nat.le_trans hB hk40.ex.size
        replace hA := hk40.new
        replace hH : Hp w.heap.size A42 w39 (obS (α := ByteArray) 9 v37 s35 :: []) := hH43
        refine C_at (n := ⟨38, [], none⟩) (fun _ _ => rfl) ?_ ha41
        refine C_region ?_
        refine V_y (Y_addI rfl rfl) rfl rfl rfl ?_
        refine V_y (Y_move rfl) rfl rfl rfl ?_
        obtain rfl := Option.some.inj h26
        refine V_end (fun a ha84 => ?_)
        exact ⟨s35, hlt29, h27, ⟨(v37, A42), ha84.sub ⟨rfl, rfl, rfl, (congrArg (fun z => some (Value.int .i64 z)) (w64_succ hlt29 hn32)), trivial⟩, ⟨hH, hr10⟩⟩⟩
      · refine C_exit (fun a ha85 => ?_)
        exact ⟨(s19, v21, A23), ha85.sub ⟨rfl, trivial⟩, ⟨(h30 (eq_of_dec hle28 hc33)).symm, hH, hr10⟩⟩
    rintro ⟨s9, v15, A17⟩ w12 ⟨rfl, hH18, hk13⟩ a ha14
    rw [Lp.andThen_fin] at hm
    replace hK := Tr.trans (Dw := False) hK hk13
    replace hB := Nat.le_trans hB hk13.ex.size
    replace hA := hk13.new
    replace hH : Hp w.heap.size A17 w12 (obS (α := ByteArray) 9 v15 s9 :: []) := hH18
    refine C_at (n := ⟨38, [], none⟩) (fun _ _ => rfl) ?_ ha14
    refine C_seq ?_
    refine C_region ?_
    refine V_y (Y_move rfl) rfl rfl rfl ?_
    obtain ⟨x87, hx87, hm⟩ := Option.bind_eq_some_iff.1 hm
    refine V_call Tryd.call14 rfl rfl rfl rfl (Tryd_cp14 (Dw := False) hH (i := 0) rfl hB hA hx87) ?_
    rintro _ w88 ⟨rfl, hH89, ht90⟩
    replace hK := Tr.trans (Dw := False) hK ht90
    replace hB := Nat.le_trans hB ht90.ex.size
    replace hA := ht90.new
    replace hH : Hp w.heap.size A17 w88 (obS (α := ByteArray) 9 v15 x87 :: []) := hH89
    refine V_to (fun _ _ => rfl) ?_
    refine C_seq ?_
    refine C_region ?_
    refine V_y (Y_move rfl) rfl rfl rfl ?_
    obtain ⟨x91, hx91, hm⟩ := Option.bind_eq_some_iff.1 hm
    refine V_call Tryd.call15 rfl rfl rfl rfl (Tryd_cp15 (Dw := False) hH (i := 0) rfl hB hA hx91) ?_
    rintro v95 w92 ⟨_, rfl, hH93, ht94⟩
    replace hK := Tr.trans (Dw := False) hK ht94
    replace hB := Nat.le_trans hB ht94.ex.size
    replace hA := ht94.new
    replace hH : Hp w.heap.size A17 w92 (obS (α := ByteArray) 9 v95 x91 :: []) := hH93
    refine V_y (Y_assign rfl) rfl rfl rfl ?_
    refine V_y (Y_assign rfl) rfl rfl rfl ?_
    refine V_to (fun _ _ => rfl) ?_
    obtain rfl := Option.some.inj hm
    refine C_ret ?_
    try simp only [↓inBlock_ret, ↓then_ret]
    exact retQ rfl (Res.two Tryd.results7 rfl rfl) ⟨v95, rfl, (Hp.ownd hH (i := 0) rfl), hK.kp⟩

set_option maxRecDepth 4000 in
set_option maxHeartbeats 4000000 in
theorem slices_Equal_Lstring_string_c (w : World) {A : Nat → Prop} (hA : ∀ b, w.heap.size ≤ b → A b) (s1 : (List ByteArray)) (v_s1 : Value) (h_s1 : Sl A w v_s1 s1) (s2 : (List ByteArray)) (v_s2 : Value) (h_s2 : Sl A w v_s2 s2) {r : Bool} (hm : slices_Equal_Lstring_string s1 s2 = some r) : Ret Tryd.prog 8 #[v_s1, v_s2] w fun v w' => v = .bool r ∧ Kp Dw w w' := by
  unfold slices_Equal_Lstring_string at hm
  refine enter Tryd.func8 rfl Tryd.ntmps8 rfl ?_
  have hA0 := hA
  have hB := Nat.le_refl w.heap.size
  have hK : Tr Dw w.heap.size A w A w := Tr.refl (Dw := Dw) hA
  have hH : Hp w.heap.size A w [] := Hp.nil
  refine C_seq ?_
  refine C_region ?_
  refine V_y (Y_assign rfl) rfl rfl rfl ?_
  refine V_to (fun _ _ => rfl) ?_
  refine C_seq ?_
  refine C_seq ?_
  refine C_region ?_
  refine V_y (Y_move rfl) rfl rfl rfl ?_
  refine V_y (Y_lenSl h_s1 rfl Tryd.underlying28 rfl) rfl rfl rfl ?_
  refine V_y (Y_move rfl) rfl rfl rfl ?_
  refine V_y (Y_lenSl h_s2 rfl Tryd.underlying28 rfl) rfl rfl rfl ?_
  refine V_y (Y_neq rfl rfl) rfl rfl rfl ?_
  refine V_to (fun _ _ => rfl) ?_
  refine C_cond rfl (fun hc5 => ?_) (fun hc5 => ?_)
  · rw [if_pos hc5] at hm
    refine C_seq ?_
    refine C_region ?_
    refine V_y (Y_assign rfl) rfl rfl rfl ?_
    refine V_to (fun _ _ => rfl) ?_
    obtain rfl := Option.some.inj hm
    refine C_ret ?_
    try simp only [↓inBlock_ret, ↓then_ret]
    exact retQ rfl (Res.one Tryd.results8 rfl) ⟨rfl, hK.kp⟩
  · rw [if_neg (nt hc5)] at hm
    refine C_skip_to (fun _ _ => rfl) ?_
    refine C_seq ?_
    refine C_seq ?_
    refine C_region ?_
    refine V_y (Y_move rfl) rfl rfl rfl ?_
    refine V_y (Y_lenSl h_s1 rfl Tryd.underlying28 rfl) rfl rfl rfl ?_
    refine V_y (Y_move rfl) rfl rfl rfl ?_
    refine V_to (fun _ _ => rfl) ?_
    have hn27 := Sl.le h_s1
    obtain ⟨o6, ho6, hm⟩ := Option.bind_eq_some_iff.1 hm
    refine C_cutG (ι := (Unit × (Nat → Prop))) (fun ⟨s7, A13⟩ => []) (fun ⟨s7, A13⟩ => fun w' => o6 = .fin s7 ∧ Hp w.heap.size A13 w' ([]) ∧ Tr Dw w.heap.size A w A13 w') ?_ ?_
    · refine C_block ?_
      refine C_range ho6 (fun k9 _ a w' => ∃ i : (Nat → Prop), Has ⟨26, [], none⟩ a ([(0, v_s1), (1, v_s2), (12, .int .i64 (s1.length : Int)), (13, .int .i64 (k9 : Int))]) ∧ Hp w.heap.size i w' ([]) ∧ Tr Dw w.heap.size A w i w') (fun a ha => ⟨A, ha.sub ⟨rfl, rfl, rfl, rfl, trivial⟩, ⟨hH, Tr.refl (Dw := Dw) hA⟩⟩) ?_
      rintro K k9 _ a w17 ⟨A18, ha43, hH19, hr8⟩ hle23 K26 h25
      refine C_of ?_ ha43
      replace h_s1 := Sl.tr (Dw := Dw) h_s1 hr8
      replace h_s2 := Sl.tr (Dw := Dw) h_s2 hr8
      replace hK := Tr.trans (Dw := Dw) hK hr8
      replace hB := Nat.le_trans hB hr8.ex.size
      replace hA := hr8.new
      replace hH : Hp w.heap.size A18 w17 ([]) := hH19
      refine C_seq (C_region (V_y (Y_lss rfl rfl) rfl rfl rfl (V_to (fun _ _ => rfl) ?_)))
      refine C_seq ?_
      refine C_cond rfl (fun hc28 => ?_) (fun hc28 => ?_)
      · have hlt24 := lt_of_dec hc28
        obtain ⟨x20, h21, h22⟩ := K26 hlt24
        refine C_skip_to (fun _ _ => rfl) ?_
        refine C_seq ?_
        refine C_block ?_
        refine C_seq ?_
        refine C_region ?_
        refine V_y (Y_move rfl) rfl rfl rfl ?_
        refine V_y (Y_assign rfl) rfl rfl rfl ?_
        refine V_to (fun _ _ => rfl) ?_
        refine C_seq ?_
        refine C_region_q (Dw := Dw) Tryd_mixed (by kernel_rfl) ?_
        refine VQ_y (fun w' hw' => Y_move rfl) rfl rfl rfl ?_
        refine VQ_y (fun w' hw' => Y_move rfl) rfl rfl rfl ?_
        obtain ⟨x29, hx29, h21⟩ := Option.bind_eq_some_iff.1 h21
        refine VQ_indexAddr h_s1 hx29 Tryd.underlying28 Tryd.sizeOf9 rfl rfl rfl ?_
        intro b30 o31 h32
        refine VQ_y (fun w' hw' => Y_load (El.str (El.kp (Dw := Dw) h32 hw')) Tryd.isAgg9 rfl) rfl rfl rfl ?_
        refine VQ_y (fun w' hw' => Y_move rfl) rfl rfl rfl ?_
        refine VQ_y (fun w' hw' => Y_move rfl) rfl rfl rfl ?_
        obtain ⟨x33, hx33, h21⟩ := Option.bind_eq_some_iff.1 h21
        refine VQ_indexAddr h_s2 hx33 Tryd.underlying28 Tryd.sizeOf9 rfl rfl rfl ?_
        intro b34 o35 h36
        refine VQ_y (fun w' hw' => Y_load (El.str (El.kp (Dw := Dw) h36 hw')) Tryd.isAgg9 rfl) rfl rfl rfl ?_
        refine VQ_y (fun w' hw' => Y_sneq rfl rfl) rfl rfl rfl ?_
        refine VQ_to (fun _ _ => rfl) (fun w37 hk38 => ?_)
        have ht39 := Kp.tr (Dw := Dw) hk38 hA hB
        replace hH := Hp.kp (Dw := Dw) hH hk38
        replace h_s1 := Sl.tr (Dw := Dw) h_s1 ht39
        replace h_s2 := Sl.tr (Dw := Dw) h_s2 ht39
        replace hK := Tr.trans (Dw := Dw) hK ht39
        replace hr8 := Tr.trans (Dw := Dw) hr8 ht39
        replace hB := Nat.le_trans hB ht39.ex.size
        replace hA := ht39.new
        refine C_cond rfl (fun hc40 => ?_) (fun hc40 => ?_)
        · rw [if_pos hc40] at h21
          refine C_seq ?_
          refine C_region ?_
          refine V_y (Y_assign rfl) rfl rfl rfl ?_
          refine V_to (fun _ _ => rfl) ?_
          obtain rfl := Option.some.inj h21
          obtain rfl := (h22 : Lp.rt _ = _)
          rw [Lp.andThen_rt] at hm
          obtain rfl := Option.some.inj hm
          refine C_ret ?_
          try simp only [↓inBlock_ret, ↓then_ret]
          exact retQ rfl (Res.one Tryd.results8 rfl) ⟨rfl, hK.kp⟩
        · rw [if_neg (nt hc40)] at h21
          refine C_skip_to (fun _ _ => rfl) ?_
          refine C_region ?_
          refine V_y (Y_addI rfl rfl) rfl rfl rfl ?_
          refine V_y (Y_move rfl) rfl rfl rfl ?_
          obtain rfl := Option.some.inj h21
          refine V_end (fun a ha41 => ?_)
          exact ⟨(), hlt24, h22, ⟨A18, ha41.sub ⟨rfl, rfl, rfl, (congrArg (fun z => some (Value.int .i64 z)) (w64_succ hlt24 hn27)), trivial⟩, ⟨hH, hr8⟩⟩⟩
      · refine C_exit (fun a ha42 => ?_)
        exact ⟨((), A18), ha42.sub trivial, ⟨(h25 (eq_of_dec hle23 hc28)).symm, hH, hr8⟩⟩
    rintro ⟨s7, A13⟩ w10 ⟨rfl, hH14, hk11⟩ a ha12
    rw [Lp.andThen_fin] at hm
    replace hK := Tr.trans (Dw := Dw) hK hk11
    replace hB := Nat.le_trans hB hk11.ex.size
    replace hA := hk11.new
    replace hH : Hp w.heap.size A13 w10 ([]) := hH14
    refine C_at (n := ⟨26, [], none⟩) (fun _ _ => rfl) ?_ ha12
    refine C_seq ?_
    refine C_region ?_
    refine V_y (Y_assign rfl) rfl rfl rfl ?_
    refine V_to (fun _ _ => rfl) ?_
    obtain rfl := Option.some.inj hm
    refine C_ret ?_
    try simp only [↓inBlock_ret, ↓then_ret]
    exact retQ rfl (Res.one Tryd.results8 rfl) ⟨rfl, hK.kp⟩

set_option maxRecDepth 4000 in
set_option maxHeartbeats 4000000 in
theorem portlaw2_TemplateChecks_c (w : World) {A : Nat → Prop} (hA : ∀ b, w.heap.size ≤ b → A b) (hT : Mx Tryd.prog 0 A w) (s : ByteArray) {r : Bool} (hm : portlaw2_TemplateChecks s = some r) : Ret Tryd.prog 3 #[.string s] w fun v w' => v = .bool r ∧ Kp False w w' := by
  unfold portlaw2_TemplateChecks at hm
  refine enter Tryd.func3 rfl Tryd.ntmps3 rfl ?_
  have hA0 := hA
  have hB := Nat.le_refl w.heap.size
  have hK : Tr False w.heap.size A w A w := Tr.refl (Dw := False) hA
  have hH : Hp w.heap.size A w [] := Hp.nil
  refine C_seq ?_
  refine C_region ?_
  refine V_y (Y_assign rfl) rfl rfl rfl ?_
  refine V_to (fun _ _ => rfl) ?_
  refine C_seq ?_
  refine C_region ?_
  refine V_y (Y_move rfl) rfl rfl rfl ?_
  obtain ⟨x1, hx1, hm⟩ := Option.bind_eq_some_iff.1 hm
  refine V_call Tryd.call4 rfl rfl rfl rfl (know_CheckTemplate_c w hA s hx1) ?_
  rintro _ w2 ⟨rfl, hk3⟩
  have ht4 := Kp.tr (Dw := False) hk3 hA hB
  replace hH := Hp.kp (Dw := False) hH hk3
  replace hK := Tr.trans (Dw := False) hK ht4
  replace hB := Nat.le_trans hB ht4.ex.size
  replace hA := ht4.new
  refine V_y (Y_move rfl) rfl rfl rfl ?_
  refine V_y (Y_extract rfl rfl) rfl rfl rfl ?_
  refine V_y (Y_extract rfl rfl) rfl rfl rfl ?_
  refine V_y (Y_assign rfl) rfl rfl rfl ?_
  refine V_y (Y_assign rfl) rfl rfl rfl ?_
  refine V_to (fun _ _ => rfl) ?_
  refine C_seq ?_
  refine C_region ?_
  refine V_y (Y_move rfl) rfl rfl rfl ?_
  obtain ⟨x5, hx5, hm⟩ := Option.bind_eq_some_iff.1 hm
  refine V_call Tryd.call5 rfl rfl rfl rfl (portref2_TemplateFault_c w2 hA (Mx.tr (Dw := False) hT hK) s hx5) ?_
  rintro _ w9 ⟨v6, rfl, h7, hk10⟩
  have ht11 := Kp.tr (Dw := False) hk10 hA hB
  replace hH := Hp.kp (Dw := False) hH hk10
  replace hK := Tr.trans (Dw := False) hK ht11
  replace hB := Nat.le_trans hB ht11.ex.size
  replace hA := ht11.new
  refine V_y (Y_move rfl) rfl rfl rfl ?_
  refine V_y (Y_extract rfl rfl) rfl rfl rfl ?_
  refine V_y (Y_extract rfl rfl) rfl rfl rfl ?_
  refine V_y (Y_extract rfl rfl) rfl rfl rfl ?_
  refine V_y (Y_assign rfl) rfl rfl rfl ?_
  refine V_y (Y_assign rfl) rfl rfl rfl ?_
  refine V_y (Y_assign rfl) rfl rfl rfl ?_
  refine V_to (fun _ _ => rfl) ?_
  refine C_seq ?_
  refine C_region ?_
  refine V_y (Y_move rfl) rfl rfl rfl ?_
  obtain ⟨x12, hx12, hm⟩ := Option.bind_eq_some_iff.1 hm
  refine V_call Tryd.call6 rfl rfl rfl rfl (know_Fields_c w9 hA s hx12) ?_
  rintro _ w15 ⟨v13, rfl, h14, hk16⟩
  obtain ⟨A17, ht18, hH19⟩ := Hp.addOwnd (Dw := False) hH hB hA hk16 h14
  replace hK := Tr.trans (Dw := False) hK ht18
  replace hB := Nat.le_trans hB ht18.ex.size
  replace hA := ht18.new
  replace hH : Hp w.heap.size A17 w15 (obS (α := ByteArray) 9 v13 x12.1 :: []) := hH19
  refine V_y (Y_move rfl) rfl rfl rfl ?_
  refine V_y (Y_extract rfl rfl) rfl rfl rfl ?_
  refine V_y (Y_extract rfl rfl) rfl rfl rfl ?_
  refine V_y (Y_assign rfl) rfl rfl rfl ?_
  refine V_y (Y_assign rfl) rfl rfl rfl ?_
  refine V_to (fun _ _ => rfl) ?_
  refine C_seq ?_
  refine C_region ?_
  refine V_y (Y_move rfl) rfl rfl rfl ?_
  obtain ⟨x20, hx20, hm⟩ := Option.bind_eq_some_iff.1 hm
  refine V_call Tryd.call7 rfl rfl rfl rfl (portref2_FieldsOf_c w15 hA (Mx.tr (Dw := False) hT hK) s hx20) ?_
  rintro _ w23 ⟨v21, rfl, h22, hk24⟩
  obtain ⟨A25, ht26, hH27⟩ := Hp.addOwnd (Dw := False) hH hB hA hk24 h22
  replace hK := Tr.trans (Dw := False) hK ht26
  replace hB := Nat.le_trans hB ht26.ex.size
  replace hA := ht26.new
  replace hH : Hp w.heap.size A25 w23 (obS (α := ByteArray) 9 v21 x20.1 :: obS (α := ByteArray) 9 v13 x12.1 :: []) := hH27
  refine V_y (Y_move rfl) rfl rfl rfl ?_
  refine V_y (Y_extract rfl rfl) rfl rfl rfl ?_
  refine V_y (Y_extract rfl rfl) rfl rfl rfl ?_
  refine V_y (Y_assign rfl) rfl rfl rfl ?_
  refine V_y (Y_assign rfl) rfl rfl rfl ?_
  refine V_to (fun _ _ => rfl) ?_
  refine C_seq ?_
  obtain ⟨s29, ho28, hm⟩ := Option.bind_eq_some_iff.1 hm
  refine C_cutG (ι := (Nat → Prop)) (fun (A34 : (Nat → Prop)) => [(2, .bool s29)]) (fun (A34 : (Nat → Prop)) => fun w' => Hp w.heap.size A34 w' (obS (α := ByteArray) 9 v21 x20.1 :: obS (α := ByteArray) 9 v13 x12.1 :: []) ∧ Tr False w.heap.size A25 w23 A34 w') ?_ ?_
  · have hr30 : Tr False w.heap.size A25 w23 A25 w23 := Tr.refl (Dw := False) hA
    refine C_region ?_
    refine V_y (Y_move rfl) rfl rfl rfl ?_
    refine V_y (Y_move rfl) rfl rfl rfl ?_
    refine V_y (Y_eql rfl rfl) rfl rfl rfl ?_
    refine V_y (Y_move rfl) rfl rfl rfl ?_
    rcases Bool.eq_false_or_eq_true (x1.1 == x5.2.1) with hc36 | hc36
    · rw [if_pos hc36] at ho28
      refine V_ge rfl rfl rfl hc36 ?_
      refine V_y (Y_move rfl) rfl rfl rfl ?_
      refine V_ge rfl rfl rfl hc36 ?_
      refine V_y (Y_move rfl) rfl rfl rfl ?_
      refine V_ge rfl rfl rfl hc36 ?_
      refine V_y (Y_eql rfl rfl) rfl rfl rfl ?_
      refine V_y (Y_pick_te rfl hc36 rfl) rfl rfl rfl ?_
      refine V_y (Y_move rfl) rfl rfl rfl ?_
      rcases Bool.eq_false_or_eq_true (x1.2 == x5.2.2) with hc37 | hc37
      · rw [if_pos hc37] at ho28
        refine V_ge rfl rfl rfl hc37 ?_
        refine V_y (Y_move rfl) rfl rfl rfl ?_
        refine V_ge rfl rfl rfl hc37 ?_
        refine V_y (Y_move rfl) rfl rfl rfl ?_
        refine V_ge rfl rfl rfl hc37 ?_
        refine V_y (Y_eql rfl rfl) rfl rfl rfl ?_
        refine V_y (Y_pick_te rfl hc37 rfl) rfl rfl rfl ?_
        refine V_y (Y_move rfl) rfl rfl rfl ?_
        rcases Bool.eq_false_or_eq_true (x12.2 == x20.2) with hc38 | hc38
        · rw [if_pos hc38] at ho28
          refine V_ge rfl rfl rfl hc38 ?_
          refine V_y (Y_move rfl) rfl rfl rfl ?_
          refine V_ge rfl rfl rfl hc38 ?_
          refine V_y (Y_move rfl) rfl rfl rfl ?_
          refine V_ge rfl rfl rfl hc38 ?_
          obtain ⟨x39, hx39, ho28⟩ := Option.bind_eq_some_iff.1 ho28
          refine V_call Tryd.call8 rfl rfl rfl rfl (slices_Equal_Lstring_string_c (Dw := False) w23 (A := fun _ => True) (fun _ _ => trivial) x12.1 v13 (Hp.any (α := ByteArray) (e := 9) (v := v13) (l := x12.1) hH (i := 1) rfl) x20.1 v21 (Hp.any (α := ByteArray) (e := 9) (v := v21) (l := x20.1) hH (i := 0) rfl) hx39) ?_
          rintro _ w40 ⟨rfl, hk41⟩
          have ht42 := Kp.tr (Dw := False) hk41 hA hB
          replace hH := Hp.kp (Dw := False) hH hk41
          replace hK := Tr.trans (Dw := False) hK ht42
          replace hr30 := Tr.trans (Dw := False) hr30 ht42
          replace hB := Nat.le_trans hB ht42.ex.size
          replace hA := ht42.new
          refine V_y (Y_pick_te rfl hc38 rfl) rfl rfl rfl ?_
          refine V_y (Y_assign rfl) rfl rfl rfl ?_
          obtain rfl := Option.some.inj ho28
          refine V_end (fun a ha43 => ?_)
          exact ⟨A25, ha43.sub ⟨rfl, trivial⟩, ⟨hH, hr30⟩⟩
        · rw [if_neg (nt hc38)] at ho28
          refine V_gn rfl rfl rfl hc38 rfl rfl rfl ?_
          refine V_gn rfl rfl rfl hc38 rfl rfl rfl ?_
          refine V_gn rfl rfl rfl hc38 rfl rfl rfl ?_
          refine V_y (Y_pick_fe rfl hc38 rfl) rfl rfl rfl ?_
          refine V_y (Y_assign rfl) rfl rfl rfl ?_
          obtain rfl := Option.some.inj ho28
          refine V_end (fun a ha44 => ?_)
          exact ⟨A25, ha44.sub ⟨rfl, trivial⟩, ⟨hH, hr30⟩⟩
      · rw [if_neg (nt hc37)] at ho28
        refine V_gn rfl rfl rfl hc37 rfl rfl rfl ?_
        refine V_gn rfl rfl rfl hc37 rfl rfl rfl ?_
        refine V_gn rfl rfl rfl hc37 rfl rfl rfl ?_
        refine V_y (Y_pick_fe rfl hc37 rfl) rfl rfl rfl ?_
        refine V_y (Y_move rfl) rfl rfl rfl ?_
        rcases Bool.eq_false_or_eq_true (false) with hc45 | hc45
        · rw [if_pos hc45] at ho28
          refine V_ge rfl rfl rfl hc45 ?_
          refine V_y (Y_move rfl) rfl rfl rfl ?_
          refine V_ge rfl rfl rfl hc45 ?_
          refine V_y (Y_move rfl) rfl rfl rfl ?_
          refine V_ge rfl rfl rfl hc45 ?_
          obtain ⟨x46, hx46, ho28⟩ := Option.bind_eq_some_iff.1 ho28
          refine V_call Tryd.call8 rfl rfl rfl rfl (slices_Equal_Lstring_string_c (Dw := False) w23 (A := fun _ => True) (fun _ _ => trivial) x12.1 v13 (Hp.any (α := ByteArray) (e := 9) (v := v13) (l := x12.1) hH (i := 1) rfl) x20.1 v21 (Hp.any (α := ByteArray) (e := 9) (v := v21) (l := x20.1) hH (i := 0) rfl) hx46) ?_
          rintro _ w47 ⟨rfl, hk48⟩
          have ht49 := Kp.tr (Dw := False) hk48 hA hB
          replace hH := Hp.kp (Dw := False) hH hk48
          replace hK := Tr.trans (Dw := False) hK ht49
          replace hr30 := Tr.trans (Dw := False) hr30 ht49
          replace hB := Nat.le_trans hB ht49.ex.size
          replace hA := ht49.new
          refine V_y (Y_pick_te rfl hc45 rfl) rfl rfl rfl ?_
          refine V_y (Y_assign rfl) rfl rfl rfl ?_
          obtain rfl := Option.some.inj ho28
          refine V_end (fun a ha50 => ?_)
          exact ⟨A25, ha50.sub ⟨rfl, trivial⟩, ⟨hH, hr30⟩⟩
        · rw [if_neg (nt hc45)] at ho28
          refine V_gn rfl rfl rfl hc45 rfl rfl rfl ?_
          refine V_gn rfl rfl rfl hc45 rfl rfl rfl ?_
          refine V_gn rfl rfl rfl hc45 rfl rfl rfl ?_
          refine V_y (Y_pick_fe rfl hc45 rfl) rfl rfl rfl ?_
          refine V_y (Y_assign rfl) rfl rfl rfl ?_
          obtain rfl := Option.some.inj ho28
          refine V_end (fun a ha51 => ?_)
          exact ⟨A25, ha51.sub ⟨rfl, trivial⟩, ⟨hH, hr30⟩⟩
    · rw [if_neg (nt hc36)] at ho28
      refine V_gn rfl rfl rfl hc36 rfl rfl rfl ?_
      refine V_gn rfl rfl rfl hc36 rfl rfl rfl ?_
      refine V_gn rfl rfl rfl hc36 rfl rfl rfl ?_
      refine V_y (Y_pick_fe rfl hc36 rfl) rfl rfl rfl ?_
      refine V_y (Y_move rfl) rfl rfl rfl ?_
      rcases Bool.eq_false_or_eq_true (false) with hc52 | hc52
      · rw [if_pos hc52] at ho28
        refine V_ge rfl rfl rfl hc52 ?_
        refine V_y (Y_move rfl) rfl rfl rfl ?_
        refine V_ge rfl rfl rfl hc52 ?_
        refine V_y (Y_move rfl) rfl rfl rfl ?_
        refine V_ge rfl rfl rfl hc52 ?_
        refine V_y (Y_eql rfl rfl) rfl rfl rfl ?_
        refine V_y (Y_pick_te rfl hc52 rfl) rfl rfl rfl ?_
        refine V_y (Y_move rfl) rfl rfl rfl ?_
        rcases Bool.eq_false_or_eq_true (x12.2 == x20.2) with hc53 | hc53
        · rw [if_pos hc53] at ho28
          refine V_ge rfl rfl rfl hc53 ?_
          refine V_y (Y_move rfl) rfl rfl rfl ?_
          refine V_ge rfl rfl rfl hc53 ?_
          refine V_y (Y_move rfl) rfl rfl rfl ?_
          refine V_ge rfl rfl rfl hc53 ?_
          obtain ⟨x54, hx54, ho28⟩ := Option.bind_eq_some_iff.1 ho28
          refine V_call Tryd.call8 rfl rfl rfl rfl (slices_Equal_Lstring_string_c (Dw := False) w23 (A := fun _ => True) (fun _ _ => trivial) x12.1 v13 (Hp.any (α := ByteArray) (e := 9) (v := v13) (l := x12.1) hH (i := 1) rfl) x20.1 v21 (Hp.any (α := ByteArray) (e := 9) (v := v21) (l := x20.1) hH (i := 0) rfl) hx54) ?_
          rintro _ w55 ⟨rfl, hk56⟩
          have ht57 := Kp.tr (Dw := False) hk56 hA hB
          replace hH := Hp.kp (Dw := False) hH hk56
          replace hK := Tr.trans (Dw := False) hK ht57
          replace hr30 := Tr.trans (Dw := False) hr30 ht57
          replace hB := Nat.le_trans hB ht57.ex.size
          replace hA := ht57.new
          refine V_y (Y_pick_te rfl hc53 rfl) rfl rfl rfl ?_
          refine V_y (Y_assign rfl) rfl rfl rfl ?_
          obtain rfl := Option.some.inj ho28
          refine V_end (fun a ha58 => ?_)
          exact ⟨A25, ha58.sub ⟨rfl, trivial⟩, ⟨hH, hr30⟩⟩
        · rw [if_neg (nt hc53)] at ho28
          refine V_gn rfl rfl rfl hc53 rfl rfl rfl ?_
          refine V_gn rfl rfl rfl hc53 rfl rfl rfl ?_
          refine V_gn rfl rfl rfl hc53 rfl rfl rfl ?_
          refine V_y (Y_pick_fe rfl hc53 rfl) rfl rfl rfl ?_
          refine V_y (Y_assign rfl) rfl rfl rfl ?_
          obtain rfl := Option.some.inj ho28
          refine V_end (fun a ha59 => ?_)
          exact ⟨A25, ha59.sub ⟨rfl, trivial⟩, ⟨hH, hr30⟩⟩
      · rw [if_neg (nt hc52)] at ho28
        refine V_gn rfl rfl rfl hc52 rfl rfl rfl ?_
        refine V_gn rfl rfl rfl hc52 rfl rfl rfl ?_
        refine V_gn rfl rfl rfl hc52 rfl rfl rfl ?_
        refine V_y (Y_pick_fe rfl hc52 rfl) rfl rfl rfl ?_
        refine V_y (Y_move rfl) rfl rfl rfl ?_
        rcases Bool.eq_false_or_eq_true (false) with hc60 | hc60
        · rw [if_pos hc60] at ho28
          refine V_ge rfl rfl rfl hc60 ?_
          refine V_y (Y_move rfl) rfl rfl rfl ?_
          refine V_ge rfl rfl rfl hc60 ?_
          refine V_y (Y_move rfl) rfl rfl rfl ?_
          refine V_ge rfl rfl rfl hc60 ?_
          obtain ⟨x61, hx61, ho28⟩ := Option.bind_eq_some_iff.1 ho28
          refine V_call Tryd.call8 rfl rfl rfl rfl (slices_Equal_Lstring_string_c (Dw := False) w23 (A := fun _ => True) (fun _ _ => trivial) x12.1 v13 (Hp.any (α := ByteArray) (e := 9) (v := v13) (l := x12.1) hH (i := 1) rfl) x20.1 v21 (Hp.any (α := ByteArray) (e := 9) (v := v21) (l := x20.1) hH (i := 0) rfl) hx61) ?_
          rintro _ w62 ⟨rfl, hk63⟩
          have ht64 := Kp.tr (Dw := False) hk63 hA hB
          replace hH := Hp.kp (Dw := False) hH hk63
          replace hK := Tr.trans (Dw := False) hK ht64
          replace hr30 := Tr.trans (Dw := False) hr30 ht64
          replace hB := Nat.le_trans hB ht64.ex.size
          replace hA := ht64.new
          refine V_y (Y_pick_te rfl hc60 rfl) rfl rfl rfl ?_
          refine V_y (Y_assign rfl) rfl rfl rfl ?_
          obtain rfl := Option.some.inj ho28
          refine V_end (fun a ha65 => ?_)
          exact ⟨A25, ha65.sub ⟨rfl, trivial⟩, ⟨hH, hr30⟩⟩
        · rw [if_neg (nt hc60)] at ho28
          refine V_gn rfl rfl rfl hc60 rfl rfl rfl ?_
          refine V_gn rfl rfl rfl hc60 rfl rfl rfl ?_
          refine V_gn rfl rfl rfl hc60 rfl rfl rfl ?_
          refine V_y (Y_pick_fe rfl hc60 rfl) rfl rfl rfl ?_
          refine V_y (Y_assign rfl) rfl rfl rfl ?_
          obtain rfl := Option.some.inj ho28
          refine V_end (fun a ha66 => ?_)
          exact ⟨A25, ha66.sub ⟨rfl, trivial⟩, ⟨hH, hr30⟩⟩
  rintro A34 w31 ⟨hH35, hk32⟩ a ha33
  replace hK := Tr.trans (Dw := False) hK hk32
  replace hB := Nat.le_trans hB hk32.ex.size
  replace hA := hk32.new
  replace hH : Hp w.heap.size A34 w31 (obS (α := ByteArray) 9 v21 x20.1 :: obS (α := ByteArray) 9 v13 x12.1 :: []) := hH35
  refine C_at (n := ⟨51, [], none⟩) (fun _ _ => rfl) ?_ ha33
  obtain rfl := Option.some.inj hm
  refine C_ret ?_
  try simp only [↓inBlock_ret, ↓then_ret]
  exact retQ rfl (Res.one Tryd.results3 rfl) ⟨rfl, hK.kp⟩

end Go.Proofs.YtmieekpjdhhjfaaDoor.W
