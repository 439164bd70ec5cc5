/-
  Written by program (gen.py) from the IR of the dump: each function computes its model.
-/
import Derived.Test.YteoinebegjpodaaGreatDoorKnowStaleW1
namespace Go.Proofs.YteoinebegjpodaaGreatDoor.W
open Go Go.RowKit Go.Pu Go.Gw Go.Proofs Go.Proofs.YteoinebegjpodaaGreatDoor.M
set_option linter.unusedVariables false
set_option linter.unusedSimpArgs false
variable {Dw : Prop}

set_option maxRecDepth 4000 in
set_option maxHeartbeats 4000000 in
theorem portref2_LinksOf_c (w : World) {A : Nat → Prop} (hA : ∀ b, w.heap.size ≤ b → A b) (hT : Fz Tryz_FR A w) (s : ByteArray) {r : (List Int)} (hm : portref2_LinksOf s = some r) : Ret Tryz.prog 17 #[.string s] w fun v w' => ∃ s0, v = s0 ∧ Ownd 3 w w' s0 r ∧ Kp False w w' := by
  unfold portref2_LinksOf at hm
  refine enter Tryz.func17 rfl Tryz.ntmps17 rfl ?_
  have hA0 := hA
  have hB := Nat.le_refl w.heap.size
  have hK : Tr False w.heap.size A w A w := Tr.refl (Dw := False) hA
  have hH : Hp w.heap.size A w [] := Hp.nil
  refine C_seq ?_
  refine C_region ?_
  refine V_y (Y_assign rfl) rfl rfl rfl ?_
  refine V_to (fun _ _ => rfl) ?_
  refine C_seq ?_
  refine C_region ?_
  refine V_y (Y_assign rfl) rfl rfl rfl ?_
  refine V_to (fun _ _ => rfl) ?_
  refine C_seq ?_
  refine C_region ?_
  refine V_y (Y_assign rfl) rfl rfl rfl ?_
  refine V_to (fun _ _ => rfl) ?_
  refine C_seq ?_
  refine C_seq ?_
  refine C_region ?_
  refine V_y (Y_assign rfl) rfl rfl rfl ?_
  refine V_to (fun _ _ => rfl) ?_
  replace hH : Hp w.heap.size A w (obS (α := Int) 3 (.slice none 0 0) ([] : (List Int)) :: []) := Hp.addNil (α := Int) (e := 3) hH
  obtain ⟨o1, ho1, hm⟩ := Option.bind_eq_some_iff.1 hm
  refine C_cutG (ι := (((List Int) × Int) × Value × (Nat → Prop))) (fun ⟨s2, v8, A10⟩ => [(3, v8)]) (fun ⟨s2, v8, A10⟩ => fun w' => o1 = .fin s2 ∧ Hp w.heap.size A10 w' (obS (α := Int) 3 v8 s2.1 :: []) ∧ Tr False w.heap.size A w A10 w') ?_ ?_
  · refine C_block ?_
    refine C_while ho1 (fun s12 a w' => ∃ i : (Value × (Nat → Prop)), Has ⟨106, [], none⟩ a ([(0, .string s), (3, i.1), (4, .func (.func 26) #[] #[]), (5, .int .i64 s12.2)]) ∧ Hp w.heap.size i.2 w' (obS (α := Int) 3 i.1 s12.1 :: []) ∧ Tr False w.heap.size A w i.2 w') (fun a ha => ⟨(.slice none 0 0, A), ha.sub ⟨rfl, rfl, rfl, rfl, trivial⟩, ⟨hH, Tr.refl (Dw := False) hA⟩⟩) ?_
    rintro K s12 a w13 ⟨⟨v14, A16⟩, ha141, hH17, hr3⟩ K24
    refine C_of ?_ ha141
    replace hK := Tr.trans (Dw := False) hK hr3
    replace hB := Nat.le_trans hB hr3.ex.size
    replace hA := hr3.new
    replace hH : Hp w.heap.size A16 w13 (obS (α := Int) 3 v14 s12.1 :: []) := hH17
    obtain ⟨x18, h19, h20⟩ := K24
    refine C_seq ?_
    refine C_seq ?_
    refine C_region ?_
    refine V_y (Y_move rfl) rfl rfl rfl ?_
    refine V_y (Y_move rfl) rfl rfl rfl ?_
    refine V_y (Y_lenStr rfl Tryz.underlying9 rfl) rfl rfl rfl ?_
    refine V_y (Y_lss rfl rfl) rfl rfl rfl ?_
    refine V_to (fun _ _ => rfl) ?_
    refine C_cond rfl (fun hc25 => ?_) (fun hc25 => ?_)
    · rw [if_pos hc25] at h19
      refine C_skip_to (fun _ _ => rfl) ?_
      refine C_seq ?_
      obtain ⟨s27, ho26, h19⟩ := Option.bind_eq_some_iff.1 h19
      refine C_cutG (ι := (Value × (Nat → Prop))) (fun ⟨v29, A34⟩ => [(0, .string s), (3, v29), (4, .func (.func 26) #[] #[]), (5, .int .i64 s12.2)]) (fun ⟨v29, A34⟩ => fun w' => Hp w.heap.size A34 w' (obS (α := Int) 3 v29 s27 :: []) ∧ Tr False w.heap.size A16 w13 A34 w') ?_ ?_
      · have hr28 : Tr False w.heap.size A16 w13 A16 w13 := Tr.refl (Dw := False) hA
        refine C_block ?_
        refine C_seq ?_
        refine C_seq ?_
        obtain ⟨s37, ho36, ho26⟩ := Option.bind_eq_some_iff.1 ho26
        refine C_cutG (ι := (Nat → Prop)) (fun (A42 : (Nat → Prop)) => [(0, .string s), (3, v14), (4, .func (.func 26) #[] #[]), (5, .int .i64 s12.2), (38, .bool s37)]) (fun (A42 : (Nat → Prop)) => fun w' => Hp w.heap.size A42 w' (obS (α := Int) 3 v14 s12.1 :: []) ∧ Tr False w.heap.size A16 w13 A42 w') ?_ ?_
        · have hr38 : Tr False w.heap.size A16 w13 A16 w13 := Tr.refl (Dw := False) hA
          refine C_region ?_
          refine V_y (Y_move rfl) rfl rfl rfl ?_
          refine V_y (Y_move rfl) rfl rfl rfl ?_
          obtain ⟨x44, hx44, ho36⟩ := Option.bind_eq_some_iff.1 ho36
          refine V_y (Y_indexS hx44 Tryz.underlying9 rfl rfl) rfl rfl rfl ?_
          refine V_y (Y_neq rfl rfl) rfl rfl rfl ?_
          refine V_y (Y_move rfl) rfl rfl rfl ?_
          rcases Bool.eq_false_or_eq_true ((x44.toNat : Int) != 35) with hc45 | hc45
          · rw [if_pos hc45] at ho36
            refine V_gn rfl rfl rfl hc45 rfl rfl rfl ?_
            refine V_gn rfl rfl rfl hc45 rfl rfl rfl ?_
            refine V_gn rfl rfl rfl hc45 rfl rfl rfl ?_
            refine V_gu rfl rfl rfl rfl rfl ?_
            refine V_gu rfl rfl rfl rfl rfl ?_
            refine V_gu rfl rfl rfl rfl rfl ?_
            refine V_gu rfl rfl rfl rfl rfl ?_
            refine V_gu rfl rfl rfl rfl rfl ?_
            refine V_gu rfl rfl rfl rfl rfl ?_
            refine V_gu rfl rfl rfl rfl rfl ?_
            refine V_gu rfl rfl rfl rfl rfl ?_
            refine V_gu rfl rfl rfl rfl rfl ?_
            refine V_gu rfl rfl rfl rfl rfl ?_
            refine V_gu rfl rfl rfl rfl rfl ?_
            refine V_gu rfl rfl rfl rfl rfl ?_
            refine V_gu rfl rfl rfl rfl rfl ?_
            refine V_gn rfl rfl rfl hc45 rfl rfl rfl ?_
            refine V_y (Y_pick_te rfl hc45 rfl) rfl rfl rfl ?_
            obtain rfl := Option.some.inj ho36
            refine V_end (fun a ha46 => ?_)
            exact ⟨A16, ha46.sub ⟨rfl, rfl, rfl, rfl, rfl, trivial⟩, ⟨hH, hr38⟩⟩
          · rw [if_neg (nt hc45)] at ho36
            refine V_ge rfl rfl rfl hc45 ?_
            refine V_y (Y_move rfl) rfl rfl rfl ?_
            refine V_ge rfl rfl rfl hc45 ?_
            refine V_y (Y_gtr rfl rfl) rfl rfl rfl ?_
            refine V_ge rfl rfl rfl hc45 ?_
            refine V_y (Y_move rfl) rfl rfl rfl ?_
            rcases Bool.eq_false_or_eq_true (decide ((0 : Int) < s12.2)) with hc47 | hc47
            · rw [if_pos hc47] at ho36
              refine V_ge rfl rfl rfl hc47 ?_
              refine V_y (Y_move rfl) rfl rfl rfl ?_
              refine V_ge rfl rfl rfl hc47 ?_
              refine V_y (Y_move rfl) rfl rfl rfl ?_
              refine V_ge rfl rfl rfl hc47 ?_
              refine V_y (Y_move rfl) rfl rfl rfl ?_
              refine V_ge rfl rfl rfl hc47 ?_
              refine V_y (Y_subI rfl rfl) rfl rfl rfl ?_
              refine V_ge rfl rfl rfl hc47 ?_
              obtain ⟨x48, hx48, ho36⟩ := Option.bind_eq_some_iff.1 ho36
              refine V_y (Y_indexS hx48 Tryz.underlying9 rfl rfl) rfl rfl rfl ?_
              refine V_ge rfl rfl rfl hc47 ?_
              refine V_call Tryz.call26 rfl rfl rfl rfl (portref2_LinksOf_1_c w13 (x48.toNat : Int)) ?_
              rintro _ _ ⟨rfl, rfl⟩
              refine V_ge rfl rfl rfl hc47 ?_
              refine V_y (Y_move rfl) rfl rfl rfl ?_
              rcases Bool.eq_false_or_eq_true ((portref2_LinksOf_1 (x48.toNat : Int))) with hc49 | hc49
              · rw [if_pos hc49] at ho36
                refine V_gn rfl rfl rfl hc49 rfl rfl rfl ?_
                refine V_gn rfl rfl rfl hc49 rfl rfl rfl ?_
                refine V_gn rfl rfl rfl hc49 rfl rfl rfl ?_
                refine V_gn rfl rfl rfl hc49 rfl rfl rfl ?_
                refine V_gn rfl rfl rfl hc49 rfl rfl rfl ?_
                refine V_ge rfl rfl rfl hc47 ?_
                refine V_y (Y_pick_te rfl hc49 rfl) rfl rfl rfl ?_
                refine V_ge rfl rfl rfl hc45 ?_
                refine V_y (Y_pick_te rfl hc47 rfl) rfl rfl rfl ?_
                refine V_y (Y_pick_fe rfl hc45 rfl) rfl rfl rfl ?_
                obtain rfl := Option.some.inj ho36
                refine V_end (fun a ha50 => ?_)
                exact ⟨A16, ha50.sub ⟨rfl, rfl, rfl, rfl, rfl, trivial⟩, ⟨hH, hr38⟩⟩
              · rw [if_neg (nt hc49)] at ho36
                refine V_ge rfl rfl rfl hc49 ?_
                refine V_y (Y_move rfl) rfl rfl rfl ?_
                refine V_ge rfl rfl rfl hc49 ?_
                refine V_y (Y_move rfl) rfl rfl rfl ?_
                refine V_ge rfl rfl rfl hc49 ?_
                refine V_y (Y_subI rfl rfl) rfl rfl rfl ?_
                refine V_ge rfl rfl rfl hc49 ?_
                refine V_y (Y_indexS hx48 Tryz.underlying9 rfl rfl) rfl rfl rfl ?_
                refine V_ge rfl rfl rfl hc49 ?_
                refine V_y (Y_eql rfl rfl) rfl rfl rfl ?_
                refine V_ge rfl rfl rfl hc47 ?_
                refine V_y (Y_pick_fe rfl hc49 rfl) rfl rfl rfl ?_
                refine V_ge rfl rfl rfl hc45 ?_
                refine V_y (Y_pick_te rfl hc47 rfl) rfl rfl rfl ?_
                refine V_y (Y_pick_fe rfl hc45 rfl) rfl rfl rfl ?_
                obtain rfl := Option.some.inj ho36
                refine V_end (fun a ha51 => ?_)
                exact ⟨A16, ha51.sub ⟨rfl, rfl, rfl, rfl, rfl, trivial⟩, ⟨hH, hr38⟩⟩
            · rw [if_neg (nt hc47)] at ho36
              refine V_gn rfl rfl rfl hc47 rfl rfl rfl ?_
              refine V_gn rfl rfl rfl hc47 rfl rfl rfl ?_
              refine V_gn rfl rfl rfl hc47 rfl rfl rfl ?_
              refine V_gn rfl rfl rfl hc47 rfl rfl rfl ?_
              refine V_gn rfl rfl rfl hc47 rfl rfl rfl ?_
              refine V_gn rfl rfl rfl hc47 rfl rfl rfl ?_
              refine V_gn rfl rfl rfl hc47 rfl rfl rfl ?_
              refine V_gu rfl rfl rfl rfl rfl ?_
              refine V_gu rfl rfl rfl rfl rfl ?_
              refine V_gu rfl rfl rfl rfl rfl ?_
              refine V_gu rfl rfl rfl rfl rfl ?_
              refine V_gu rfl rfl rfl rfl rfl ?_
              refine V_gn rfl rfl rfl hc47 rfl rfl rfl ?_
              refine V_ge rfl rfl rfl hc45 ?_
              refine V_y (Y_pick_fe rfl hc47 rfl) rfl rfl rfl ?_
              refine V_y (Y_pick_fe rfl hc45 rfl) rfl rfl rfl ?_
              obtain rfl := Option.some.inj ho36
              refine V_end (fun a ha52 => ?_)
              exact ⟨A16, ha52.sub ⟨rfl, rfl, rfl, rfl, rfl, trivial⟩, ⟨hH, hr38⟩⟩
        rintro A42 w39 ⟨hH43, hk40⟩ a ha41
        replace hK := Tr.trans (Dw := False) hK hk40
        replace hr3 := Tr.trans (Dw := False) hr3 hk40
        replace hr28 := Tr.trans (Dw := False) hr28 hk40
        replace hB := Nat.le_trans hB hk40.ex.size
        replace hA := hk40.new
        replace hH : Hp w.heap.size A42 w39 (obS (α := Int) 3 v14 s12.1 :: []) := hH43
        refine C_at (n := ⟨106, [], none⟩) (fun _ _ => rfl) ?_ ha41
        refine C_cond rfl (fun hc53 => ?_) (fun hc53 => ?_)
        · rw [if_pos hc53] at ho26
          obtain rfl := Option.some.inj ho26
          refine C_exit (fun a ha54 => ?_)
          exact ⟨(v14, A42), ha54.sub ⟨rfl, rfl, rfl, rfl, trivial⟩, ⟨hH, hr28⟩⟩
        · rw [if_neg (nt hc53)] at ho26
          refine C_skip_to (fun _ _ => rfl) ?_
          refine C_seq ?_
          refine C_region ?_
          refine V_y (Y_move rfl) rfl rfl rfl ?_
          refine V_y (Y_addI rfl rfl) rfl rfl rfl ?_
          refine V_y (Y_assign rfl) rfl rfl rfl ?_
          refine V_to (fun _ _ => rfl) ?_
          refine C_seq ?_
          obtain ⟨o55, ho55, ho26⟩ := Option.bind_eq_some_iff.1 ho26
          refine C_cutG (ι := Int) (fun (s56 : Int) => [(0, .string s), (3, v14), (4, .func (.func 26) #[] #[]), (5, .int .i64 s12.2), (6, .int .i64 s56)]) (fun (s56 : Int) => fun w' => o55 = .fin s56 ∧ w39 = w') ?_ ?_
          · refine C_block ?_
            refine C_while ho55 (fun s62 a w' => ∃ i : Unit, Has ⟨106, [], none⟩ a ([(0, .string s), (3, v14), (4, .func (.func 26) #[] #[]), (5, .int .i64 s12.2), (6, .int .i64 s62)]) ∧ w39 = w') (fun a ha => ⟨(), ha.sub ⟨rfl, rfl, rfl, rfl, rfl, trivial⟩, rfl⟩) ?_
            rintro K s62 a _ ⟨_, ha80, rfl⟩ K70
            refine C_of ?_ ha80
            obtain ⟨x64, h65, h66⟩ := K70
            refine C_seq ?_
            refine C_seq ?_
            refine C_region ?_
            refine V_y (Y_move rfl) rfl rfl rfl ?_
            refine V_y (Y_move rfl) rfl rfl rfl ?_
            refine V_y (Y_lenStr rfl Tryz.underlying9 rfl) rfl rfl rfl ?_
            refine V_y (Y_lss rfl rfl) rfl rfl rfl ?_
            refine V_y (Y_move rfl) rfl rfl rfl ?_
            obtain ⟨s72, hs72, h65⟩ := Option.bind_eq_some_iff.1 h65
            refine V_cut 5 (fun _ : Unit => [(0, .string s), (3, v14), (4, .func (.func 26) #[] #[]), (5, .int .i64 s12.2), (6, .int .i64 s62), (50, .bool s72)]) (fun _ w' => w39 = w') ?_ ?_
            · simp only [List.take, List.drop]
              rcases Bool.eq_false_or_eq_true (decide (s62 < (s.size : Int))) with hc71 | hc71
              · rw [if_pos hc71] at hs72
                refine V_ge rfl rfl rfl hc71 ?_
                refine V_y (Y_move rfl) rfl rfl rfl ?_
                refine V_ge rfl rfl rfl hc71 ?_
                refine V_y (Y_move rfl) rfl rfl rfl ?_
                refine V_ge rfl rfl rfl hc71 ?_
                obtain ⟨x73, hx73, hs72⟩ := Option.bind_eq_some_iff.1 hs72
                refine V_y (Y_indexS hx73 Tryz.underlying9 rfl rfl) rfl rfl rfl ?_
                refine V_ge rfl rfl rfl hc71 ?_
                refine V_y (Y_geq rfl rfl) rfl rfl rfl ?_
                refine V_y (Y_pick_te rfl hc71 rfl) rfl rfl rfl ?_
                obtain rfl := Option.some.inj hs72
                exact V_end fun a ha => ⟨(), ha.sub ⟨rfl, rfl, rfl, rfl, rfl, rfl, trivial⟩, rfl⟩
              · rw [if_neg (nt hc71)] at hs72
                refine V_gn rfl rfl rfl hc71 rfl rfl rfl ?_
                refine V_gn rfl rfl rfl hc71 rfl rfl rfl ?_
                refine V_gn rfl rfl rfl hc71 rfl rfl rfl ?_
                refine V_gn rfl rfl rfl hc71 rfl rfl rfl ?_
                refine V_y (Y_pick_fe rfl hc71 rfl) rfl rfl rfl ?_
                obtain rfl := Option.some.inj hs72
                exact V_end fun a ha => ⟨(), ha.sub ⟨rfl, rfl, rfl, rfl, rfl, rfl, trivial⟩, rfl⟩
            simp only [List.take, List.drop]
            rintro _ _ rfl
            refine V_y (Y_move rfl) rfl rfl rfl ?_
            obtain ⟨s75, hs75, h65⟩ := Option.bind_eq_some_iff.1 h65
            refine V_cut 5 (fun _ : Unit => [(0, .string s), (3, v14), (4, .func (.func 26) #[] #[]), (5, .int .i64 s12.2), (6, .int .i64 s62), (56, .bool s75)]) (fun _ w' => w39 = w') ?_ ?_
            · simp only [List.take, List.drop]
              rcases Bool.eq_false_or_eq_true (s72) with hc74 | hc74
              · rw [if_pos hc74] at hs75
                refine V_ge rfl rfl rfl hc74 ?_
                refine V_y (Y_move rfl) rfl rfl rfl ?_
                refine V_ge rfl rfl rfl hc74 ?_
                refine V_y (Y_move rfl) rfl rfl rfl ?_
                refine V_ge rfl rfl rfl hc74 ?_
                obtain ⟨x76, hx76, hs75⟩ := Option.bind_eq_some_iff.1 hs75
                refine V_y (Y_indexS hx76 Tryz.underlying9 rfl rfl) rfl rfl rfl ?_
                refine V_ge rfl rfl rfl hc74 ?_
                refine V_y (Y_leq rfl rfl) rfl rfl rfl ?_
                refine V_y (Y_pick_te rfl hc74 rfl) rfl rfl rfl ?_
                obtain rfl := Option.some.inj hs75
                exact V_end fun a ha => ⟨(), ha.sub ⟨rfl, rfl, rfl, rfl, rfl, rfl, trivial⟩, rfl⟩
              · rw [if_neg (nt hc74)] at hs75
                refine V_gn rfl rfl rfl hc74 rfl rfl rfl ?_
                refine V_gn rfl rfl rfl hc74 rfl rfl rfl ?_
                refine V_gn rfl rfl rfl hc74 rfl rfl rfl ?_
                refine V_gn rfl rfl rfl hc74 rfl rfl rfl ?_
                refine V_y (Y_pick_fe rfl hc74 rfl) rfl rfl rfl ?_
                obtain rfl := Option.some.inj hs75
                exact V_end fun a ha => ⟨(), ha.sub ⟨rfl, rfl, rfl, rfl, rfl, rfl, trivial⟩, rfl⟩
            simp only [List.take, List.drop]
            rintro _ _ rfl
            refine V_to (fun _ _ => rfl) ?_
            refine C_cond rfl (fun hc77 => ?_) (fun hc77 => ?_)
            · rw [if_pos hc77] at h65
              refine C_skip_to (fun _ _ => rfl) ?_
              refine C_block ?_
              refine C_region ?_
              refine V_y (Y_move rfl) rfl rfl rfl ?_
              refine V_y (Y_addI rfl rfl) rfl rfl rfl ?_
              refine V_y (Y_assign rfl) rfl rfl rfl ?_
              obtain rfl := Option.some.inj h65
              refine V_end (fun a ha78 => ?_)
              exact ⟨w64 (s62 + 1), h66, ⟨(), ha78.sub ⟨rfl, rfl, rfl, rfl, rfl, trivial⟩, rfl⟩⟩
            · rw [if_neg (nt hc77)] at h65
              obtain rfl := Option.some.inj h65
              refine C_exit (fun a ha79 => ?_)
              exact ⟨s62, ha79.sub ⟨rfl, rfl, rfl, rfl, rfl, trivial⟩, ⟨h66.symm, rfl⟩⟩
          rintro s56 _ ⟨rfl, rfl⟩ a ha61
          rw [Lp.andThen_fin] at ho26
          refine C_at (n := ⟨106, [], none⟩) (fun _ _ => rfl) ?_ ha61
          refine C_seq ?_
          refine C_seq ?_
          refine C_region ?_
          refine V_y (Y_move rfl) rfl rfl rfl ?_
          refine V_y (Y_move rfl) rfl rfl rfl ?_
          refine V_y (Y_subI rfl rfl) rfl rfl rfl ?_
          refine V_y (Y_subI rfl rfl) rfl rfl rfl ?_
          refine V_y (Y_assign rfl) rfl rfl rfl ?_
          refine V_to (fun _ _ => rfl) ?_
          refine C_seq ?_
          obtain ⟨s82, ho81, ho26⟩ := Option.bind_eq_some_iff.1 ho26
          refine C_cutG (ι := (Nat → Prop)) (fun (A87 : (Nat → Prop)) => [(0, .string s), (3, v14), (4, .func (.func 26) #[] #[]), (5, .int .i64 s12.2), (6, .int .i64 s56), (88, .bool s82)]) (fun (A87 : (Nat → Prop)) => fun w' => Hp w.heap.size A87 w' (obS (α := Int) 3 v14 s12.1 :: []) ∧ Tr False w.heap.size A42 w39 A87 w') ?_ ?_
          · have hr83 : Tr False w.heap.size A42 w39 A42 w39 := Tr.refl (Dw := False) hA
            refine C_region ?_
            refine V_y (Y_move rfl) rfl rfl rfl ?_
            refine V_y (Y_lss rfl rfl) rfl rfl rfl ?_
            refine V_y (Y_move rfl) rfl rfl rfl ?_
            rcases Bool.eq_false_or_eq_true (decide ((w64 ((w64 (s56 - s12.2)) - 1)) < 1)) with hc89 | hc89
            · rw [if_pos hc89] at ho81
              refine V_gn rfl rfl rfl hc89 rfl rfl rfl ?_
              refine V_gn rfl rfl rfl hc89 rfl rfl rfl ?_
              refine V_y (Y_pick_te rfl hc89 rfl) rfl rfl rfl ?_
              refine V_y (Y_move rfl) rfl rfl rfl ?_
              rcases Bool.eq_false_or_eq_true (true) with hc90 | hc90
              · rw [if_pos hc90] at ho81
                refine V_gn rfl rfl rfl hc90 rfl rfl rfl ?_
                refine V_gn rfl rfl rfl hc90 rfl rfl rfl ?_
                refine V_gn rfl rfl rfl hc90 rfl rfl rfl ?_
                refine V_gn rfl rfl rfl hc90 rfl rfl rfl ?_
                refine V_gn rfl rfl rfl hc90 rfl rfl rfl ?_
                refine V_y (Y_pick_te rfl hc90 rfl) rfl rfl rfl ?_
                refine V_y (Y_move rfl) rfl rfl rfl ?_
                rcases Bool.eq_false_or_eq_true (true) with hc91 | hc91
                · rw [if_pos hc91] at ho81
                  refine V_gn rfl rfl rfl hc91 rfl rfl rfl ?_
                  refine V_gn rfl rfl rfl hc91 rfl rfl rfl ?_
                  refine V_gn rfl rfl rfl hc91 rfl rfl rfl ?_
                  refine V_gn rfl rfl rfl hc91 rfl rfl rfl ?_
                  refine V_gn rfl rfl rfl hc91 rfl rfl rfl ?_
                  refine V_gu rfl rfl rfl rfl rfl ?_
                  refine V_gu rfl rfl rfl rfl rfl ?_
                  refine V_gu rfl rfl rfl rfl rfl ?_
                  refine V_gu rfl rfl rfl rfl rfl ?_
                  refine V_gu rfl rfl rfl rfl rfl ?_
                  refine V_gn rfl rfl rfl hc91 rfl rfl rfl ?_
                  refine V_y (Y_pick_te rfl hc91 rfl) rfl rfl rfl ?_
                  obtain rfl := Option.some.inj ho81
                  refine V_end (fun a ha92 => ?_)
                  exact ⟨A42, ha92.sub ⟨rfl, rfl, rfl, rfl, rfl, rfl, trivial⟩, ⟨hH, hr83⟩⟩
                · rw [if_neg (nt hc91)] at ho81
                  refine V_ge rfl rfl rfl hc91 ?_
                  refine V_y (Y_move rfl) rfl rfl rfl ?_
                  refine V_ge rfl rfl rfl hc91 ?_
                  refine V_y (Y_move rfl) rfl rfl rfl ?_
                  refine V_ge rfl rfl rfl hc91 ?_
                  refine V_y (Y_lenStr rfl Tryz.underlying9 rfl) rfl rfl rfl ?_
                  refine V_ge rfl rfl rfl hc91 ?_
                  refine V_y (Y_lss rfl rfl) rfl rfl rfl ?_
                  refine V_ge rfl rfl rfl hc91 ?_
                  refine V_y (Y_move rfl) rfl rfl rfl ?_
                  rcases Bool.eq_false_or_eq_true (decide (s56 < (s.size : Int))) with hc93 | hc93
                  · rw [if_pos hc93] at ho81
                    refine V_ge rfl rfl rfl hc93 ?_
                    refine V_y (Y_move rfl) rfl rfl rfl ?_
                    refine V_ge rfl rfl rfl hc93 ?_
                    refine V_y (Y_move rfl) rfl rfl rfl ?_
                    refine V_ge rfl rfl rfl hc93 ?_
                    refine V_y (Y_move rfl) rfl rfl rfl ?_
                    refine V_ge rfl rfl rfl hc93 ?_
                    obtain ⟨x94, hx94, ho81⟩ := Option.bind_eq_some_iff.1 ho81
                    refine V_y (Y_indexS hx94 Tryz.underlying9 rfl rfl) rfl rfl rfl ?_
                    refine V_ge rfl rfl rfl hc93 ?_
                    refine V_call Tryz.call26 rfl rfl rfl rfl (portref2_LinksOf_1_c w39 (x94.toNat : Int)) ?_
                    rintro _ _ ⟨rfl, rfl⟩
                    refine V_ge rfl rfl rfl hc91 ?_
                    refine V_y (Y_pick_te rfl hc93 rfl) rfl rfl rfl ?_
                    refine V_y (Y_pick_fe rfl hc91 rfl) rfl rfl rfl ?_
                    obtain rfl := Option.some.inj ho81
                    refine V_end (fun a ha95 => ?_)
                    exact ⟨A42, ha95.sub ⟨rfl, rfl, rfl, rfl, rfl, rfl, trivial⟩, ⟨hH, hr83⟩⟩
                  · rw [if_neg (nt hc93)] at ho81
                    refine V_gn rfl rfl rfl hc93 rfl rfl rfl ?_
                    refine V_gn rfl rfl rfl hc93 rfl rfl rfl ?_
                    refine V_gn rfl rfl rfl hc93 rfl rfl rfl ?_
                    refine V_gn rfl rfl rfl hc93 rfl rfl rfl ?_
                    refine V_gn rfl rfl rfl hc93 rfl rfl rfl ?_
                    refine V_ge rfl rfl rfl hc91 ?_
                    refine V_y (Y_pick_fe rfl hc93 rfl) rfl rfl rfl ?_
                    refine V_y (Y_pick_fe rfl hc91 rfl) rfl rfl rfl ?_
                    obtain rfl := Option.some.inj ho81
                    refine V_end (fun a ha96 => ?_)
                    exact ⟨A42, ha96.sub ⟨rfl, rfl, rfl, rfl, rfl, rfl, trivial⟩, ⟨hH, hr83⟩⟩
              · rw [if_neg (nt hc90)] at ho81
                refine V_ge rfl rfl rfl hc90 ?_
                refine V_y (Y_move rfl) rfl rfl rfl ?_
                refine V_ge rfl rfl rfl hc90 ?_
                refine V_y (Y_move rfl) rfl rfl rfl ?_
                refine V_ge rfl rfl rfl hc90 ?_
                refine V_y (Y_addI rfl rfl) rfl rfl rfl ?_
                refine V_ge rfl rfl rfl hc90 ?_
                obtain ⟨x97, hx97, ho81⟩ := Option.bind_eq_some_iff.1 ho81
                refine V_y (Y_indexS hx97 Tryz.underlying9 rfl rfl) rfl rfl rfl ?_
                refine V_ge rfl rfl rfl hc90 ?_
                refine V_y (Y_eql rfl rfl) rfl rfl rfl ?_
                refine V_y (Y_pick_fe rfl hc90 rfl) rfl rfl rfl ?_
                refine V_y (Y_move rfl) rfl rfl rfl ?_
                rcases Bool.eq_false_or_eq_true ((x97.toNat : Int) == 48) with hc98 | hc98
                · rw [if_pos hc98] at ho81
                  refine V_gn rfl rfl rfl hc98 rfl rfl rfl ?_
                  refine V_gn rfl rfl rfl hc98 rfl rfl rfl ?_
                  refine V_gn rfl rfl rfl hc98 rfl rfl rfl ?_
                  refine V_gn rfl rfl rfl hc98 rfl rfl rfl ?_
                  refine V_gn rfl rfl rfl hc98 rfl rfl rfl ?_
                  refine V_gu rfl rfl rfl rfl rfl ?_
                  refine V_gu rfl rfl rfl rfl rfl ?_
                  refine V_gu rfl rfl rfl rfl rfl ?_
                  refine V_gu rfl rfl rfl rfl rfl ?_
                  refine V_gu rfl rfl rfl rfl rfl ?_
                  refine V_gn rfl rfl rfl hc98 rfl rfl rfl ?_
                  refine V_y (Y_pick_te rfl hc98 rfl) rfl rfl rfl ?_
                  obtain rfl := Option.some.inj ho81
                  refine V_end (fun a ha99 => ?_)
                  exact ⟨A42, ha99.sub ⟨rfl, rfl, rfl, rfl, rfl, rfl, trivial⟩, ⟨hH, hr83⟩⟩
                · rw [if_neg (nt hc98)] at ho81
                  refine V_ge rfl rfl rfl hc98 ?_
                  refine V_y (Y_move rfl) rfl rfl rfl ?_
                  refine V_ge rfl rfl rfl hc98 ?_
                  refine V_y (Y_move rfl) rfl rfl rfl ?_
                  refine V_ge rfl rfl rfl hc98 ?_
                  refine V_y (Y_lenStr rfl Tryz.underlying9 rfl) rfl rfl rfl ?_
                  refine V_ge rfl rfl rfl hc98 ?_
                  refine V_y (Y_lss rfl rfl) rfl rfl rfl ?_
                  refine V_ge rfl rfl rfl hc98 ?_
                  refine V_y (Y_move rfl) rfl rfl rfl ?_
                  rcases Bool.eq_false_or_eq_true (decide (s56 < (s.size : Int))) with hc100 | hc100
                  · rw [if_pos hc100] at ho81
                    refine V_ge rfl rfl rfl hc100 ?_
                    refine V_y (Y_move rfl) rfl rfl rfl ?_
                    refine V_ge rfl rfl rfl hc100 ?_
                    refine V_y (Y_move rfl) rfl rfl rfl ?_
                    refine V_ge rfl rfl rfl hc100 ?_
                    refine V_y (Y_move rfl) rfl rfl rfl ?_
                    refine V_ge rfl rfl rfl hc100 ?_
                    obtain ⟨x101, hx101, ho81⟩ := Option.bind_eq_some_iff.1 ho81
                    refine V_y (Y_indexS hx101 Tryz.underlying9 rfl rfl) rfl rfl rfl ?_
                    refine V_ge rfl rfl rfl hc100 ?_
                    refine V_call Tryz.call26 rfl rfl rfl rfl (portref2_LinksOf_1_c w39 (x101.toNat : Int)) ?_
                    rintro _ _ ⟨rfl, rfl⟩
                    refine V_ge rfl rfl rfl hc98 ?_
                    refine V_y (Y_pick_te rfl hc100 rfl) rfl rfl rfl ?_
                    refine V_y (Y_pick_fe rfl hc98 rfl) rfl rfl rfl ?_
                    obtain rfl := Option.some.inj ho81
                    refine V_end (fun a ha102 => ?_)
                    exact ⟨A42, ha102.sub ⟨rfl, rfl, rfl, rfl, rfl, rfl, trivial⟩, ⟨hH, hr83⟩⟩
                  · rw [if_neg (nt hc100)] at ho81
                    refine V_gn rfl rfl rfl hc100 rfl rfl rfl ?_
                    refine V_gn rfl rfl rfl hc100 rfl rfl rfl ?_
                    refine V_gn rfl rfl rfl hc100 rfl rfl rfl ?_
                    refine V_gn rfl rfl rfl hc100 rfl rfl rfl ?_
                    refine V_gn rfl rfl rfl hc100 rfl rfl rfl ?_
                    refine V_ge rfl rfl rfl hc98 ?_
                    refine V_y (Y_pick_fe rfl hc100 rfl) rfl rfl rfl ?_
                    refine V_y (Y_pick_fe rfl hc98 rfl) rfl rfl rfl ?_
                    obtain rfl := Option.some.inj ho81
                    refine V_end (fun a ha103 => ?_)
                    exact ⟨A42, ha103.sub ⟨rfl, rfl, rfl, rfl, rfl, rfl, trivial⟩, ⟨hH, hr83⟩⟩
            · rw [if_neg (nt hc89)] at ho81
              refine V_ge rfl rfl rfl hc89 ?_
              refine V_y (Y_move rfl) rfl rfl rfl ?_
              refine V_ge rfl rfl rfl hc89 ?_
              refine V_y (Y_gtr rfl rfl) rfl rfl rfl ?_
              refine V_y (Y_pick_fe rfl hc89 rfl) rfl rfl rfl ?_
              refine V_y (Y_move rfl) rfl rfl rfl ?_
              rcases Bool.eq_false_or_eq_true (decide ((7 : Int) < (w64 ((w64 (s56 - s12.2)) - 1)))) with hc104 | hc104
              · rw [if_pos hc104] at ho81
                refine V_gn rfl rfl rfl hc104 rfl rfl rfl ?_
                refine V_gn rfl rfl rfl hc104 rfl rfl rfl ?_
                refine V_gn rfl rfl rfl hc104 rfl rfl rfl ?_
                refine V_gn rfl rfl rfl hc104 rfl rfl rfl ?_
                refine V_gn rfl rfl rfl hc104 rfl rfl rfl ?_
                refine V_y (Y_pick_te rfl hc104 rfl) rfl rfl rfl ?_
                refine V_y (Y_move rfl) rfl rfl rfl ?_
                rcases Bool.eq_false_or_eq_true (true) with hc105 | hc105
                · rw [if_pos hc105] at ho81
                  refine V_gn rfl rfl rfl hc105 rfl rfl rfl ?_
                  refine V_gn rfl rfl rfl hc105 rfl rfl rfl ?_
                  refine V_gn rfl rfl rfl hc105 rfl rfl rfl ?_
                  refine V_gn rfl rfl rfl hc105 rfl rfl rfl ?_
                  refine V_gn rfl rfl rfl hc105 rfl rfl rfl ?_
                  refine V_gu rfl rfl rfl rfl rfl ?_
                  refine V_gu rfl rfl rfl rfl rfl ?_
                  refine V_gu rfl rfl rfl rfl rfl ?_
                  refine V_gu rfl rfl rfl rfl rfl ?_
                  refine V_gu rfl rfl rfl rfl rfl ?_
                  refine V_gn rfl rfl rfl hc105 rfl rfl rfl ?_
                  refine V_y (Y_pick_te rfl hc105 rfl) rfl rfl rfl ?_
                  obtain rfl := Option.some.inj ho81
                  refine V_end (fun a ha106 => ?_)
                  exact ⟨A42, ha106.sub ⟨rfl, rfl, rfl, rfl, rfl, rfl, trivial⟩, ⟨hH, hr83⟩⟩
                · rw [if_neg (nt hc105)] at ho81
                  refine V_ge rfl rfl rfl hc105 ?_
                  refine V_y (Y_move rfl) rfl rfl rfl ?_
                  refine V_ge rfl rfl rfl hc105 ?_
                  refine V_y (Y_move rfl) rfl rfl rfl ?_
                  refine V_ge rfl rfl rfl hc105 ?_
                  refine V_y (Y_lenStr rfl Tryz.underlying9 rfl) rfl rfl rfl ?_
                  refine V_ge rfl rfl rfl hc105 ?_
                  refine V_y (Y_lss rfl rfl) rfl rfl rfl ?_
                  refine V_ge rfl rfl rfl hc105 ?_
                  refine V_y (Y_move rfl) rfl rfl rfl ?_
                  rcases Bool.eq_false_or_eq_true (decide (s56 < (s.size : Int))) with hc107 | hc107
                  · rw [if_pos hc107] at ho81
                    refine V_ge rfl rfl rfl hc107 ?_
                    refine V_y (Y_move rfl) rfl rfl rfl ?_
                    refine V_ge rfl rfl rfl hc107 ?_
                    refine V_y (Y_move rfl) rfl rfl rfl ?_
                    refine V_ge rfl rfl rfl hc107 ?_
                    refine V_y (Y_move rfl) rfl rfl rfl ?_
                    refine V_ge rfl rfl rfl hc107 ?_
                    obtain ⟨x108, hx108, ho81⟩ := Option.bind_eq_some_iff.1 ho81
                    refine V_y (Y_indexS hx108 Tryz.underlying9 rfl rfl) rfl rfl rfl ?_
                    refine V_ge rfl rfl rfl hc107 ?_
                    refine V_call Tryz.call26 rfl rfl rfl rfl (portref2_LinksOf_1_c w39 (x108.toNat : Int)) ?_
                    rintro _ _ ⟨rfl, rfl⟩
                    refine V_ge rfl rfl rfl hc105 ?_
                    refine V_y (Y_pick_te rfl hc107 rfl) rfl rfl rfl ?_
                    refine V_y (Y_pick_fe rfl hc105 rfl) rfl rfl rfl ?_
                    obtain rfl := Option.some.inj ho81
                    refine V_end (fun a ha109 => ?_)
                    exact ⟨A42, ha109.sub ⟨rfl, rfl, rfl, rfl, rfl, rfl, trivial⟩, ⟨hH, hr83⟩⟩
                  · rw [if_neg (nt hc107)] at ho81
                    refine V_gn rfl rfl rfl hc107 rfl rfl rfl ?_
                    refine V_gn rfl rfl rfl hc107 rfl rfl rfl ?_
                    refine V_gn rfl rfl rfl hc107 rfl rfl rfl ?_
                    refine V_gn rfl rfl rfl hc107 rfl rfl rfl ?_
                    refine V_gn rfl rfl rfl hc107 rfl rfl rfl ?_
                    refine V_ge rfl rfl rfl hc105 ?_
                    refine V_y (Y_pick_fe rfl hc107 rfl) rfl rfl rfl ?_
                    refine V_y (Y_pick_fe rfl hc105 rfl) rfl rfl rfl ?_
                    obtain rfl := Option.some.inj ho81
                    refine V_end (fun a ha110 => ?_)
                    exact ⟨A42, ha110.sub ⟨rfl, rfl, rfl, rfl, rfl, rfl, trivial⟩, ⟨hH, hr83⟩⟩
              · rw [if_neg (nt hc104)] at ho81
                refine V_ge rfl rfl rfl hc104 ?_
                refine V_y (Y_move rfl) rfl rfl rfl ?_
                refine V_ge rfl rfl rfl hc104 ?_
                refine V_y (Y_move rfl) rfl rfl rfl ?_
                refine V_ge rfl rfl rfl hc104 ?_
                refine V_y (Y_addI rfl rfl) rfl rfl rfl ?_
                refine V_ge rfl rfl rfl hc104 ?_
                obtain ⟨x111, hx111, ho81⟩ := Option.bind_eq_some_iff.1 ho81
                refine V_y (Y_indexS hx111 Tryz.underlying9 rfl rfl) rfl rfl rfl ?_
                refine V_ge rfl rfl rfl hc104 ?_
                refine V_y (Y_eql rfl rfl) rfl rfl rfl ?_
                refine V_y (Y_pick_fe rfl hc104 rfl) rfl rfl rfl ?_
                refine V_y (Y_move rfl) rfl rfl rfl ?_
                rcases Bool.eq_false_or_eq_true ((x111.toNat : Int) == 48) with hc112 | hc112
                · rw [if_pos hc112] at ho81
                  refine V_gn rfl rfl rfl hc112 rfl rfl rfl ?_
                  refine V_gn rfl rfl rfl hc112 rfl rfl rfl ?_
                  refine V_gn rfl rfl rfl hc112 rfl rfl rfl ?_
                  refine V_gn rfl rfl rfl hc112 rfl rfl rfl ?_
                  refine V_gn rfl rfl rfl hc112 rfl rfl rfl ?_
                  refine V_gu rfl rfl rfl rfl rfl ?_
                  refine V_gu rfl rfl rfl rfl rfl ?_
                  refine V_gu rfl rfl rfl rfl rfl ?_
                  refine V_gu rfl rfl rfl rfl rfl ?_
                  refine V_gu rfl rfl rfl rfl rfl ?_
                  refine V_gn rfl rfl rfl hc112 rfl rfl rfl ?_
                  refine V_y (Y_pick_te rfl hc112 rfl) rfl rfl rfl ?_
                  obtain rfl := Option.some.inj ho81
                  refine V_end (fun a ha113 => ?_)
                  exact ⟨A42, ha113.sub ⟨rfl, rfl, rfl, rfl, rfl, rfl, trivial⟩, ⟨hH, hr83⟩⟩
                · rw [if_neg (nt hc112)] at ho81
                  refine V_ge rfl rfl rfl hc112 ?_
                  refine V_y (Y_move rfl) rfl rfl rfl ?_
                  refine V_ge rfl rfl rfl hc112 ?_
                  refine V_y (Y_move rfl) rfl rfl rfl ?_
                  refine V_ge rfl rfl rfl hc112 ?_
                  refine V_y (Y_lenStr rfl Tryz.underlying9 rfl) rfl rfl rfl ?_
                  refine V_ge rfl rfl rfl hc112 ?_
                  refine V_y (Y_lss rfl rfl) rfl rfl rfl ?_
                  refine V_ge rfl rfl rfl hc112 ?_
                  refine V_y (Y_move rfl) rfl rfl rfl ?_
                  rcases Bool.eq_false_or_eq_true (decide (s56 < (s.size : Int))) with hc114 | hc114
                  · rw [if_pos hc114] at ho81
                    refine V_ge rfl rfl rfl hc114 ?_
                    refine V_y (Y_move rfl) rfl rfl rfl ?_
                    refine V_ge rfl rfl rfl hc114 ?_
                    refine V_y (Y_move rfl) rfl rfl rfl ?_
                    refine V_ge rfl rfl rfl hc114 ?_
                    refine V_y (Y_move rfl) rfl rfl rfl ?_
                    refine V_ge rfl rfl rfl hc114 ?_
                    obtain ⟨x115, hx115, ho81⟩ := Option.bind_eq_some_iff.1 ho81
                    refine V_y (Y_indexS hx115 Tryz.underlying9 rfl rfl) rfl rfl rfl ?_
                    refine V_ge rfl rfl rfl hc114 ?_
                    refine V_call Tryz.call26 rfl rfl rfl rfl (portref2_LinksOf_1_c w39 (x115.toNat : Int)) ?_
                    rintro _ _ ⟨rfl, rfl⟩
                    refine V_ge rfl rfl rfl hc112 ?_
                    refine V_y (Y_pick_te rfl hc114 rfl) rfl rfl rfl ?_
                    refine V_y (Y_pick_fe rfl hc112 rfl) rfl rfl rfl ?_
                    obtain rfl := Option.some.inj ho81
                    refine V_end (fun a ha116 => ?_)
                    exact ⟨A42, ha116.sub ⟨rfl, rfl, rfl, rfl, rfl, rfl, trivial⟩, ⟨hH, hr83⟩⟩
                  · rw [if_neg (nt hc114)] at ho81
                    refine V_gn rfl rfl rfl hc114 rfl rfl rfl ?_
                    refine V_gn rfl rfl rfl hc114 rfl rfl rfl ?_
                    refine V_gn rfl rfl rfl hc114 rfl rfl rfl ?_
                    refine V_gn rfl rfl rfl hc114 rfl rfl rfl ?_
                    refine V_gn rfl rfl rfl hc114 rfl rfl rfl ?_
                    refine V_ge rfl rfl rfl hc112 ?_
                    refine V_y (Y_pick_fe rfl hc114 rfl) rfl rfl rfl ?_
                    refine V_y (Y_pick_fe rfl hc112 rfl) rfl rfl rfl ?_
                    obtain rfl := Option.some.inj ho81
                    refine V_end (fun a ha117 => ?_)
                    exact ⟨A42, ha117.sub ⟨rfl, rfl, rfl, rfl, rfl, rfl, trivial⟩, ⟨hH, hr83⟩⟩
          rintro A87 w84 ⟨hH88, hk85⟩ a ha86
          replace hK := Tr.trans (Dw := False) hK hk85
          replace hr3 := Tr.trans (Dw := False) hr3 hk85
          replace hr28 := Tr.trans (Dw := False) hr28 hk85
          replace hB := Nat.le_trans hB hk85.ex.size
          replace hA := hk85.new
          replace hH : Hp w.heap.size A87 w84 (obS (α := Int) 3 v14 s12.1 :: []) := hH88
          refine C_at (n := ⟨106, [], none⟩) (fun _ _ => rfl) ?_ ha86
          refine C_cond rfl (fun hc118 => ?_) (fun hc118 => ?_)
          · rw [if_pos hc118] at ho26
            obtain rfl := Option.some.inj ho26
            refine C_exit (fun a ha119 => ?_)
            exact ⟨(v14, A87), ha119.sub ⟨rfl, rfl, rfl, rfl, trivial⟩, ⟨hH, hr28⟩⟩
          · rw [if_neg (nt hc118)] at ho26
            refine C_skip_to (fun _ _ => rfl) ?_
            refine C_seq ?_
            refine C_region ?_
            refine V_y (Y_move rfl) rfl rfl rfl ?_
            refine V_y (Y_move rfl) rfl rfl rfl ?_
            refine V_y (Y_addI rfl rfl) rfl rfl rfl ?_
            refine V_y (Y_move rfl) rfl rfl rfl ?_
            obtain ⟨x120, hx120, ho26⟩ := Option.bind_eq_some_iff.1 ho26
            refine V_y (Y_sliceSLH hx120 Tryz.underlying9 rfl rfl rfl) rfl rfl rfl ?_
            obtain ⟨x121, hx121, ho26⟩ := Option.bind_eq_some_iff.1 ho26
            refine V_call Tryz.call28 rfl rfl rfl rfl (strconv_Atoi_c w84 hA ⟨((Fz.tr (Dw := False) hT hK)).2.1, ((Fz.tr (Dw := False) hT hK)).2.2⟩ x120 hx121) ?_
            rintro _ w124 ⟨v122, rfl, h123, hk125⟩
            have ht126 := Kp.tr (Dw := False) hk125 hA hB
            replace hH := Hp.kp (Dw := False) hH hk125
            replace hK := Tr.trans (Dw := False) hK ht126
            replace hr3 := Tr.trans (Dw := False) hr3 ht126
            replace hr28 := Tr.trans (Dw := False) hr28 ht126
            replace hB := Nat.le_trans hB ht126.ex.size
            replace hA := ht126.new
            refine V_y (Y_move rfl) rfl rfl rfl ?_
            refine V_y (Y_extract rfl rfl) rfl rfl rfl ?_
            refine V_y (Y_extract rfl rfl) rfl rfl rfl ?_
            refine V_y (Y_assign rfl) rfl rfl rfl ?_
            refine V_y (Y_assign rfl) rfl rfl rfl ?_
            refine V_to (fun _ _ => rfl) ?_
            refine C_region ?_
            refine V_y (Y_move rfl) rfl rfl rfl ?_
            refine V_y (Y_move rfl) rfl rfl rfl ?_
            refine V_buildSlice (Dw := False) (l := ([x121.1] : List Int)) (len := 1) Tryz.underlying23 Tryz.sizeOf3 Tryz.zeroValue3 rfl (by with_unfolding_all rfl) (show (1 * 1 : Nat) ≠ 0 by decide) (show (1 * 1 : Nat) ≤ 2 ^ 24 by decide) hA ⟨[.int .i64 x121.1], _, rfl, rfl, rfl⟩ rfl rfl ?_
            intro v127 w128 hk130 h129
            have ht131 := Kp.tr (Dw := False) hk130 hA hB
            replace hH := Hp.kp (Dw := False) hH hk130
            replace hK := Tr.trans (Dw := False) hK ht131
            replace hr3 := Tr.trans (Dw := False) hr3 ht131
            replace hr28 := Tr.trans (Dw := False) hr28 ht131
            replace hB := Nat.le_trans hB ht131.ex.size
            replace hA := ht131.new
            obtain ⟨x132, hx132, ho26⟩ := Option.bind_eq_some_iff.1 ho26
            refine V_appendH (Dw := False) (e := 3) (v := v14) (l := s12.1) (ti := Tryz.t3) (bytes := 8) (lim := 17592186044416) hH (i := 0) rfl h129 hx132 Tryz.underlying23 Tryz_info3 rfl rfl rfl rfl (by decide) (by decide) (by decide) hB hA rfl rfl rfl ?_
            intro v133 w134 A135 hH136 ht137
            replace h129 := Sl.tr (Dw := False) h129 ht137
            replace hK := Tr.trans (Dw := False) hK ht137
            replace hr3 := Tr.trans (Dw := False) hr3 ht137
            replace hr28 := Tr.trans (Dw := False) hr28 ht137
            replace hB := Nat.le_trans hB ht137.ex.size
            replace hA := ht137.new
            replace hH : Hp w.heap.size A135 w134 (obS (α := Int) 3 v133 x132 :: []) := hH136
            refine V_y (Y_assign rfl) rfl rfl rfl ?_
            obtain rfl := Option.some.inj ho26
            refine V_end (fun a ha138 => ?_)
            exact ⟨(v133, A135), ha138.sub ⟨rfl, rfl, rfl, rfl, trivial⟩, ⟨hH, hr28⟩⟩
      rintro ⟨v29, A34⟩ w31 ⟨hH35, hk32⟩ a ha33
      replace hK := Tr.trans (Dw := False) hK hk32
      replace hr3 := Tr.trans (Dw := False) hr3 hk32
      replace hB := Nat.le_trans hB hk32.ex.size
      replace hA := hk32.new
      replace hH : Hp w.heap.size A34 w31 (obS (α := Int) 3 v29 s27 :: []) := hH35
      refine C_at (n := ⟨106, [], none⟩) (fun _ _ => rfl) ?_ ha33
      refine C_region ?_
      refine V_y (Y_move rfl) rfl rfl rfl ?_
      refine V_y (Y_addI rfl rfl) rfl rfl rfl ?_
      refine V_y (Y_assign rfl) rfl rfl rfl ?_
      obtain rfl := Option.some.inj h19
      refine V_end (fun a ha139 => ?_)
      exact ⟨(s27, w64 (s12.2 + 1)), h20, ⟨(v29, A34), ha139.sub ⟨rfl, rfl, rfl, rfl, trivial⟩, ⟨hH, hr3⟩⟩⟩
    · rw [if_neg (nt hc25)] at h19
      obtain rfl := Option.some.inj h19
      refine C_exit (fun a ha140 => ?_)
      exact ⟨((s12.1, s12.2), v14, A16), ha140.sub ⟨rfl, trivial⟩, ⟨h20.symm, hH, hr3⟩⟩
  rintro ⟨s2, v8, A10⟩ w5 ⟨rfl, hH11, hk6⟩ a ha7
  rw [Lp.andThen_fin] at hm
  replace hK := Tr.trans (Dw := False) hK hk6
  replace hB := Nat.le_trans hB hk6.ex.size
  replace hA := hk6.new
  replace hH : Hp w.heap.size A10 w5 (obS (α := Int) 3 v8 s2.1 :: []) := hH11
  refine C_at (n := ⟨106, [], none⟩) (fun _ _ => rfl) ?_ ha7
  refine C_seq ?_
  refine C_region ?_
  refine V_y (Y_move rfl) rfl rfl rfl ?_
  obtain ⟨x142, hx142, hm⟩ := Option.bind_eq_some_iff.1 hm
  refine V_call Tryz.call23 rfl rfl rfl rfl (Tryz_sortInts (Dw := False) hH (i := 0) rfl hB hA hx142) ?_
  rintro _ w143 ⟨rfl, hH144, ht145⟩
  replace hK := Tr.trans (Dw := False) hK ht145
  replace hB := Nat.le_trans hB ht145.ex.size
  replace hA := ht145.new
  replace hH : Hp w.heap.size A10 w143 (obS (α := Int) 3 v8 x142 :: []) := hH144
  refine V_to (fun _ _ => rfl) ?_
  refine C_seq ?_
  refine C_region ?_
  refine V_y (Y_move rfl) rfl rfl rfl ?_
  obtain ⟨x146, hx146, hm⟩ := Option.bind_eq_some_iff.1 hm
  refine V_call Tryz.call24 rfl rfl rfl rfl (Tryz_cp24 (Dw := False) hH (i := 0) rfl hB hA hx146) ?_
  rintro v150 w147 ⟨_, rfl, hH148, ht149⟩
  replace hK := Tr.trans (Dw := False) hK ht149
  replace hB := Nat.le_trans hB ht149.ex.size
  replace hA := ht149.new
  replace hH : Hp w.heap.size A10 w147 (obS (α := Int) 3 v150 x146 :: []) := hH148
  refine V_y (Y_assign rfl) rfl rfl rfl ?_
  refine V_to (fun _ _ => rfl) ?_
  obtain rfl := Option.some.inj hm
  refine C_ret ?_
  try simp only [↓inBlock_ret, ↓then_ret]
  exact retQ rfl (Res.one Tryz.results17 rfl) ⟨v150, rfl, (Hp.ownd hH (i := 0) rfl), hK.kp⟩

set_option maxRecDepth 4000 in
set_option maxHeartbeats 4000000 in
theorem portref2_StaleOf_1_c (w : World) {A : Nat → Prop} (hA : ∀ b, w.heap.size ≤ b → A b) (n : Int) (p1 : (Fmap Int Bool)) (b_p1 : Nat) (h_p1 : El A w b_p1 0 p1) {r : Bool} (hm : portref2_StaleOf_1 n p1 = some r) : Ret Tryz.prog 18 #[.int .i64 n, .pointer (some ⟨b_p1, 0, none⟩)] w fun v w' => v = .bool r ∧ Kp Dw w w' := by
  unfold portref2_StaleOf_1 at hm
  refine enter Tryz.func18 rfl Tryz.ntmps18 rfl ?_
  have hA0 := hA
  have hB := Nat.le_refl w.heap.size
  have hK : Tr Dw w.heap.size A w A w := Tr.refl (Dw := Dw) hA
  have hH : Hp w.heap.size A w [] := Hp.nil
  refine C_seq ?_
  refine C_region ?_
  refine V_y (Y_assign rfl) rfl rfl rfl ?_
  refine V_to (fun _ _ => rfl) ?_
  refine C_seq ?_
  refine C_region ?_
  obtain ⟨mb1, h2, h3⟩ := El.map h_p1
  refine V_y (Y_load h2 Tryz.isAgg36 rfl) rfl rfl rfl ?_
  refine V_y (Y_move rfl) rfl rfl rfl ?_
  refine V_y (Y_lookupS (κ := Int) (α := Bool) (z := false) (l := p1.l) (Fm.hp h3) (i := 0) rfl Tryz.underlying36 Tryz.underlying3 Tryz.zeroValue4 rfl rfl rfl) rfl rfl rfl ?_
  refine V_y (Y_not rfl) rfl rfl rfl ?_
  refine V_y (Y_assign rfl) rfl rfl rfl ?_
  refine V_to (fun _ _ => rfl) ?_
  obtain rfl := Option.some.inj hm
  refine C_ret ?_
  try simp only [↓inBlock_ret, ↓then_ret]
  exact retQ rfl (Res.one Tryz.results18 rfl) ⟨rfl, hK.kp⟩

set_option maxRecDepth 4000 in
set_option maxHeartbeats 4000000 in
theorem portref2_StaleOf_c (w : World) {A : Nat → Prop} (hA : ∀ b, w.heap.size ≤ b → A b) (hT : Fz Tryz_FR A w) (l : (List know_Article)) (v_l : Value) (h_l : Sl A w v_l l) (m : Int) (age : Int) {r : ((List Int) × Int)} (hm : portref2_StaleOf l m age = some r) : Ret Tryz.prog 5 #[v_l, .int .i64 m, .int .i64 age] w fun v w' => ∃ s0, v = .tuple #[s0, .int .i64 r.2] ∧ Ownd 3 w w' s0 r.1 ∧ Kp False w w' := by
  unfold portref2_StaleOf at hm
  refine enter Tryz.func5 rfl Tryz.ntmps5 rfl ?_
  have hA0 := hA
  have hB := Nat.le_refl w.heap.size
  have hK : Tr False w.heap.size A w A w := Tr.refl (Dw := False) hA
  have hH : Hp w.heap.size A w [] := Hp.nil
  refine C_seq ?_
  refine C_region ?_
  refine V_y (Y_assign rfl) rfl rfl rfl ?_
  refine V_y (Y_assign rfl) rfl rfl rfl ?_
  refine V_to (fun _ _ => rfl) ?_
  refine C_seq ?_
  refine C_seq ?_
  refine C_region ?_
  refine V_y (Y_move rfl) rfl rfl rfl ?_
  obtain ⟨x3, hx3, hm⟩ := Option.bind_eq_some_iff.1 hm
  refine V_call Tryz.call14 rfl rfl rfl rfl (portref2_ArticlesFault_c w hA (Fz.tr (Dw := False) hT hK) l v_l h_l hx3) ?_
  rintro _ w4 ⟨rfl, hk5⟩
  have ht6 := Kp.tr (Dw := False) hk5 hA hB
  replace hH := Hp.kp (Dw := False) hH hk5
  replace h_l := Sl.tr (Dw := False) h_l ht6
  replace hK := Tr.trans (Dw := False) hK ht6
  replace hB := Nat.le_trans hB ht6.ex.size
  replace hA := ht6.new
  refine V_y (Y_assign rfl) rfl rfl rfl ?_
  refine V_to (fun _ _ => rfl) ?_
  refine C_seq ?_
  refine C_region ?_
  refine V_y (Y_move rfl) rfl rfl rfl ?_
  refine V_y (Y_neq rfl rfl) rfl rfl rfl ?_
  refine V_to (fun _ _ => rfl) ?_
  refine C_cond rfl (fun hc7 => ?_) (fun hc7 => ?_)
  · rw [if_pos hc7] at hm
    refine C_seq ?_
    refine C_region ?_
    refine V_y (Y_move rfl) rfl rfl rfl ?_
    refine V_y (Y_assign rfl) rfl rfl rfl ?_
    refine V_y (Y_assign rfl) rfl rfl rfl ?_
    refine V_to (fun _ _ => rfl) ?_
    obtain rfl := Option.some.inj hm
    replace hH : Hp w.heap.size A w4 (obS (α := Int) 3 (.slice none 0 0) ([] : (List Int)) :: []) := Hp.addNil (α := Int) (e := 3) hH
    refine C_ret ?_
    try simp only [↓inBlock_ret, ↓then_ret]
    exact retQ rfl (Res.two Tryz.results5 rfl rfl) ⟨.slice none 0 0, rfl, (Hp.ownd hH (i := 0) rfl), hK.kp⟩
  · rw [if_neg (nt hc7)] at hm
    refine C_skip_to (fun _ _ => rfl) ?_
    refine C_seq ?_
    refine C_seq ?_
    refine C_region ?_
    refine V_y (Y_move rfl) rfl rfl rfl ?_
    refine V_call Tryz.call15 rfl rfl rfl rfl (portref2_IsMoment_c w4 m) ?_
    rintro _ _ ⟨rfl, rfl⟩
    refine V_y (Y_not rfl) rfl rfl rfl ?_
    refine V_y (Y_move rfl) rfl rfl rfl ?_
    refine V_cut 3 (fun _ : Unit => [(0, v_l), (1, .int .i64 m), (2, .int .i64 age), (30, .bool ((!(portref2_IsMoment m)) || (decide (age < 0))))]) (fun _ w' => w4 = w') ?_ ?_
    · simp only [List.take, List.drop]
      rcases Bool.eq_false_or_eq_true (!(portref2_IsMoment m)) with hc8 | hc8
      · refine V_gn rfl rfl rfl hc8 rfl rfl rfl ?_
        refine V_gn rfl rfl rfl hc8 rfl rfl rfl ?_
        refine V_y (Y_pick_te rfl hc8 rfl) rfl rfl rfl ?_
        exact V_end fun a ha => ⟨(), ha.sub ⟨rfl, rfl, rfl, (by rw [hc8]; rfl), trivial⟩, rfl⟩
      · refine V_ge rfl rfl rfl hc8 ?_
        refine V_y (Y_move rfl) rfl rfl rfl ?_
        refine V_ge rfl rfl rfl hc8 ?_
        refine V_y (Y_lss rfl rfl) rfl rfl rfl ?_
        refine V_y (Y_pick_fe rfl hc8 rfl) rfl rfl rfl ?_
        exact V_end fun a ha => ⟨(), ha.sub ⟨rfl, rfl, rfl, (by rw [hc8]; rfl), trivial⟩, rfl⟩
    simp only [List.take, List.drop]
    rintro _ _ rfl
    refine V_to (fun _ _ => rfl) ?_
    refine C_cond rfl (fun hc10 => ?_) (fun hc10 => ?_)
    · rw [if_pos hc10] at hm
      refine C_seq ?_
      refine C_region ?_
      refine V_y (Y_assign rfl) rfl rfl rfl ?_
      refine V_y (Y_assign rfl) rfl rfl rfl ?_
      refine V_to (fun _ _ => rfl) ?_
      obtain rfl := Option.some.inj hm
      replace hH : Hp w.heap.size A w4 (obS (α := Int) 3 (.slice none 0 0) ([] : (List Int)) :: []) := Hp.addNil (α := Int) (e := 3) hH
      refine C_ret ?_
      try simp only [↓inBlock_ret, ↓then_ret]
      exact retQ rfl (Res.two Tryz.results5 rfl rfl) ⟨.slice none 0 0, rfl, (Hp.ownd hH (i := 0) rfl), hK.kp⟩
    · rw [if_neg (nt hc10)] at hm
      refine C_skip_to (fun _ _ => rfl) ?_
      refine C_seq ?_
      refine C_region ?_
      refine V_makeMapS (Dw := False) (B := w.heap.size) Int Bool hH hB hA rfl ?_
      intro b11 w12 A13 hH14 ht15
      replace h_l := Sl.tr (Dw := False) h_l ht15
      replace hK := Tr.trans (Dw := False) hK ht15
      replace hB := Nat.le_trans hB ht15.ex.size
      replace hA := ht15.new
      replace hH : Hp w.heap.size A13 w12 (obSM (κ := Int) (α := Bool) b11 ([] : List (Int × Bool)) :: []) := hH14
      refine V_alloc Tryz.zeroValue36 rfl ?_
      intro b16 w17 h18
      refine V_storeNew h18 Tryz.sizeOf36 rfl rfl rfl rfl (by simp [Value.cells, Value.oneCell']) ?_
      intro w19 h20
      have hk21 := h20.kp (Dw := False)
      have h22 : Vb A13 w19 b16 (.map (some b11)) := h20.vb hA rfl
      have ht23 := Kp.tr (Dw := False) hk21 hA hB
      replace hH := Hp.kp (Dw := False) hH hk21
      replace h_l := Sl.tr (Dw := False) h_l ht23
      replace hK := Tr.trans (Dw := False) hK ht23
      replace hB := Nat.le_trans hB ht23.ex.size
      replace hA := ht23.new
      refine V_to (fun _ _ => rfl) ?_
      refine C_seq ?_
      refine C_seq ?_
      refine C_region ?_
      refine V_y (Y_move rfl) rfl rfl rfl ?_
      refine V_y (Y_lenSl h_l rfl Tryz.underlying22 rfl) rfl rfl rfl ?_
      refine V_y (Y_move rfl) rfl rfl rfl ?_
      refine V_to (fun _ _ => rfl) ?_
      have hn44 := Sl.le h_l
      obtain ⟨o24, ho24, hm⟩ := Option.bind_eq_some_iff.1 hm
      refine C_cutG (ι := ((List (Int × Bool)) × (Nat → Prop))) (fun ⟨s25, A31⟩ => [(0, v_l), (1, .int .i64 m), (2, .int .i64 age), (9, .pointer (some ⟨b16, 0, none⟩))]) (fun ⟨s25, A31⟩ => fun w' => o24 = .fin s25 ∧ Hp w.heap.size A31 w' (obSM (κ := Int) (α := Bool) b11 s25 :: []) ∧ Tr False w.heap.size A13 w19 A31 w') ?_ ?_
      · refine C_block ?_
        refine C_range ho24 (fun k27 s33 a w' => ∃ i : (Nat → Prop), Has ⟨84, [], none⟩ a ([(0, v_l), (1, .int .i64 m), (2, .int .i64 age), (9, .pointer (some ⟨b16, 0, none⟩)), (32, v_l), (33, .int .i64 (l.length : Int)), (34, .int .i64 (k27 : Int))]) ∧ Hp w.heap.size i w' (obSM (κ := Int) (α := Bool) b11 s33 :: []) ∧ Tr False w.heap.size A13 w19 i w') (fun a ha => ⟨A13, ha.sub ⟨rfl, rfl, rfl, rfl, rfl, rfl, rfl, trivial⟩, ⟨hH, Tr.refl (Dw := False) hA⟩⟩) ?_
        rintro K k27 s33 a w34 ⟨A35, ha85, hH36, hr26⟩ hle40 K43 h42
        refine C_of ?_ ha85
        replace h_l := Sl.tr (Dw := False) h_l hr26
        replace h22 := Vb.tr (Dw := False) h22 hr26
        replace hK := Tr.trans (Dw := False) hK hr26
        replace hB := Nat.le_trans hB hr26.ex.size
        replace hA := hr26.new
        replace hH : Hp w.heap.size A35 w34 (obSM (κ := Int) (α := Bool) b11 s33 :: []) := hH36
        refine C_seq (C_region (V_y (Y_lss rfl rfl) rfl rfl rfl (V_to (fun _ _ => rfl) ?_)))
        refine C_seq ?_
        refine C_cond rfl (fun hc45 => ?_) (fun hc45 => ?_)
        · have hlt41 := lt_of_dec hc45
          obtain ⟨x37, h38, h39⟩ := K43 hlt41
          refine C_skip_to (fun _ _ => rfl) ?_
          refine C_seq ?_
          refine C_block ?_
          refine C_seq ?_
          refine C_region ?_
          obtain ⟨x46, hx46, h38⟩ := Option.bind_eq_some_iff.1 h38
          refine V_indexAddr h_l hx46 Tryz.underlying22 Tryz.sizeOf44 rfl rfl rfl ?_
          intro b47 o48 h49
          obtain ⟨v50, h52, h51⟩ := El_know_Article h49
          refine V_y (Y_loadA h52 Tryz.isAgg44 Tryz.sizeOf44 rfl) rfl rfl rfl ?_
          refine V_alloc Tryz.zeroValue44 rfl ?_
          intro b53 w54 h55
          have h60 : (v50).oneCell' = true := by obtain ⟨_, _, e, _⟩ := Sl.form h51; rw [e]; rfl
          refine V_storeNew h55 Tryz.sizeOf44 rfl rfl rfl rfl (by exact (List.forall_mem_cons.2 ⟨rfl, (List.forall_mem_cons.2 ⟨rfl, (List.forall_mem_cons.2 ⟨h60, (fun _ h => nomatch h)⟩)⟩)⟩)) ?_
          intro w56 h57
          have hk62 := h57.kp (Dw := False)
          have h61 : El (α := know_Article) A35 w56 b53 0 x46 := h57.el hA ⟨[.int .i64 x46.id_], _, rfl, rfl, ⟨[.int .i64 x46.group], _, rfl, rfl, ⟨_, rfl, h51⟩⟩⟩
          have ht63 := Kp.tr (Dw := False) hk62 hA hB
          replace hH := Hp.kp (Dw := False) hH hk62
          replace h_l := Sl.tr (Dw := False) h_l ht63
          replace h22 := Vb.tr (Dw := False) h22 ht63
          replace h49 := El.tr (Dw := False) h49 ht63
          replace h51 := Sl.tr (Dw := False) h51 ht63
          replace hK := Tr.trans (Dw := False) hK ht63
          replace hr26 := Tr.trans (Dw := False) hr26 ht63
          replace hB := Nat.le_trans hB ht63.ex.size
          replace hA := ht63.new
          refine V_to (fun _ _ => rfl) ?_
          refine C_seq ?_
          refine C_region ?_
          obtain ⟨v64, h66, h65⟩ := El_know_Article h61
          refine V_y (Y_loadA h66 Tryz.isAgg44 Tryz.sizeOf44 rfl) rfl rfl rfl ?_
          refine V_y (Y_move rfl) rfl rfl rfl ?_
          obtain ⟨x67, hx67, h38⟩ := Option.bind_eq_some_iff.1 h38
          refine V_call Tryz.call16 rfl rfl rfl rfl (portref2_versionAt_c (Dw := False) w56 hA x46 v64 h65 m hx67) ?_
          rintro _ w68 ⟨rfl, hk69⟩
          have ht70 := Kp.tr (Dw := False) hk69 hA hB
          replace hH := Hp.kp (Dw := False) hH hk69
          replace h_l := Sl.tr (Dw := False) h_l ht70
          replace h22 := Vb.tr (Dw := False) h22 ht70
          replace h61 := El.tr (Dw := False) h61 ht70
          replace h65 := Sl.tr (Dw := False) h65 ht70
          replace hK := Tr.trans (Dw := False) hK ht70
          replace hr26 := Tr.trans (Dw := False) hr26 ht70
          replace hB := Nat.le_trans hB ht70.ex.size
          replace hA := ht70.new
          refine V_y (Y_move rfl) rfl rfl rfl ?_
          refine V_y (Y_extract rfl rfl) rfl rfl rfl ?_
          refine V_y (Y_extract rfl rfl) rfl rfl rfl ?_
          refine V_alloc Tryz.zeroValue40 rfl ?_
          intro b71 w72 h73
          refine V_storeNew h73 Tryz.sizeOf40 rfl rfl rfl rfl (by exact (List.forall_mem_cons.2 ⟨rfl, (List.forall_mem_cons.2 ⟨rfl, (List.forall_mem_cons.2 ⟨rfl, (fun _ h => nomatch h)⟩)⟩)⟩)) ?_
          intro w74 h75
          have hk77 := h75.kp (Dw := False)
          have h76 : El (α := know_Version) A35 w74 b71 0 x67.1 := h75.el hA ⟨[.int .i64 x67.1.at_], _, rfl, rfl, ⟨[.string x67.1.title], _, rfl, rfl, rfl⟩⟩
          have ht78 := Kp.tr (Dw := False) hk77 hA hB
          replace hH := Hp.kp (Dw := False) hH hk77
          replace h_l := Sl.tr (Dw := False) h_l ht78
          replace h22 := Vb.tr (Dw := False) h22 ht78
          replace h61 := El.tr (Dw := False) h61 ht78
          replace h65 := Sl.tr (Dw := False) h65 ht78
          replace hK := Tr.trans (Dw := False) hK ht78
          replace hr26 := Tr.trans (Dw := False) hr26 ht78
          replace hB := Nat.le_trans hB ht78.ex.size
          replace hA := ht78.new
          refine V_y (Y_assign rfl) rfl rfl rfl ?_
          refine V_to (fun _ _ => rfl) ?_
          refine C_region ?_
          refine V_y (Y_load h22.2.2 Tryz.isAgg36 rfl) rfl rfl rfl ?_
          have h79 := El_know_Article_0 h61
          refine V_y (Y_fieldAddr Tryz.underlying44 rfl Tryz.sizeOf3 (by decide) rfl) rfl rfl rfl ?_
          refine V_y (Y_load (El.int h79) Tryz.isAgg3 rfl) rfl rfl rfl ?_
          refine V_y (Y_move rfl) rfl rfl rfl ?_
          refine V_mapUpdateS (Dw := False) (κ := Int) (α := Bool) (l := s33) (c := x67.2) hH (i := 0) rfl Tryz.underlying36 Tryz.underlying3 rfl rfl rfl hB hA ?_
          intro w80 hH81 ht82
          replace h_l := Sl.tr (Dw := False) h_l ht82
          replace h22 := Vb.tr (Dw := False) h22 ht82
          replace h61 := El.tr (Dw := False) h61 ht82
          replace h79 := El.tr (Dw := False) h79 ht82
          replace hK := Tr.trans (Dw := False) hK ht82
          replace hr26 := Tr.trans (Dw := False) hr26 ht82
          replace hB := Nat.le_trans hB ht82.ex.size
          replace hA := ht82.new
          replace hH : Hp w.heap.size A35 w80 (obSM (κ := Int) (α := Bool) b11 (mapPut s33 x46.id_ x67.2) :: []) := hH81
          refine V_to (fun _ _ => rfl) ?_
          refine C_region ?_
          refine V_y (Y_addI rfl rfl) rfl rfl rfl ?_
          refine V_y (Y_move rfl) rfl rfl rfl ?_
          obtain rfl := Option.some.inj h38
          refine V_end (fun a ha83 => ?_)
          exact ⟨(mapPut s33 x46.id_ x67.2), hlt41, h39, ⟨A35, ha83.sub ⟨rfl, rfl, rfl, rfl, rfl, rfl, (congrArg (fun z => some (Value.int .i64 z)) (w64_succ hlt41 hn44)), trivial⟩, ⟨hH, hr26⟩⟩⟩
        · refine C_exit (fun a ha84 => ?_)
          exact ⟨(s33, A35), ha84.sub ⟨rfl, rfl, rfl, rfl, trivial⟩, ⟨(h42 (eq_of_dec hle40 hc45)).symm, hH, hr26⟩⟩
      rintro ⟨s25, A31⟩ w28 ⟨rfl, hH32, hk29⟩ a ha30
      rw [Lp.andThen_fin] at hm
      replace h_l := Sl.tr (Dw := False) h_l hk29
      replace h22 := Vb.tr (Dw := False) h22 hk29
      replace hK := Tr.trans (Dw := False) hK hk29
      replace hB := Nat.le_trans hB hk29.ex.size
      replace hA := hk29.new
      replace hH : Hp w.heap.size A31 w28 (obSM (κ := Int) (α := Bool) b11 s25 :: []) := hH32
      refine C_at (n := ⟨84, [], none⟩) (fun _ _ => rfl) ?_ ha30
      refine C_seq ?_
      refine C_region ?_
      refine V_y (Y_assign rfl) rfl rfl rfl ?_
      refine V_to (fun _ _ => rfl) ?_
      refine C_seq ?_
      refine C_seq ?_
      refine C_region ?_
      refine V_y (Y_move rfl) rfl rfl rfl ?_
      refine V_y (Y_lenSl h_l rfl Tryz.underlying22 rfl) rfl rfl rfl ?_
      refine V_y (Y_move rfl) rfl rfl rfl ?_
      refine V_to (fun _ _ => rfl) ?_
      obtain ⟨A86, ht87, h88, hH89⟩ := Hp.freezeSM (Dw := False) (κ := Int) (α := Bool) (l := s25) hH (i := 0) rfl hA h22
      replace h_l := Sl.tr (Dw := False) h_l ht87
      replace hK := Tr.trans (Dw := False) hK ht87
      replace hB := Nat.le_trans hB ht87.ex.size
      replace hA := ht87.new
      replace hH : Hp w.heap.size A86 w28 ([]) := hH89
      replace hH : Hp w.heap.size A86 w28 (obS (α := Int) 3 (.slice none 0 0) ([] : (List Int)) :: []) := Hp.addNil (α := Int) (e := 3) hH
      have hn114 := Sl.le h_l
      obtain ⟨o90, ho90, hm⟩ := Option.bind_eq_some_iff.1 hm
      refine C_cutG (ι := ((List Int) × Value × (Nat → Prop))) (fun ⟨s91, v97, A99⟩ => [(14, v97)]) (fun ⟨s91, v97, A99⟩ => fun w' => o90 = .fin s91 ∧ Hp w.heap.size A99 w' (obS (α := Int) 3 v97 s91 :: []) ∧ Tr False w.heap.size A86 w28 A99 w') ?_ ?_
      · refine C_block ?_
        refine C_range ho90 (fun k93 s101 a w' => ∃ i : (Value × (Nat → Prop)), Has ⟨84, [], none⟩ a ([(1, .int .i64 m), (2, .int .i64 age), (9, .pointer (some ⟨b16, 0, none⟩)), (14, i.1), (49, v_l), (50, .int .i64 (l.length : Int)), (51, .int .i64 (k93 : Int))]) ∧ Hp w.heap.size i.2 w' (obS (α := Int) 3 i.1 s101 :: []) ∧ Tr False w.heap.size A86 w28 i.2 w') (fun a ha => ⟨(.slice none 0 0, A86), ha.sub ⟨rfl, rfl, rfl, rfl, rfl, rfl, rfl, trivial⟩, ⟨hH, Tr.refl (Dw := False) hA⟩⟩) ?_
        rintro K k93 s101 a w102 ⟨⟨v103, A105⟩, ha223, hH106, hr92⟩ hle110 K113 h112
        refine C_of ?_ ha223
        replace h88 := El.tr (Dw := False) h88 hr92
        replace h_l := Sl.tr (Dw := False) h_l hr92
        replace hK := Tr.trans (Dw := False) hK hr92
        replace hB := Nat.le_trans hB hr92.ex.size
        replace hA := hr92.new
        replace hH : Hp w.heap.size A105 w102 (obS (α := Int) 3 v103 s101 :: []) := hH106
        refine C_seq (C_region (V_y (Y_lss rfl rfl) rfl rfl rfl (V_to (fun _ _ => rfl) ?_)))
        refine C_seq ?_
        refine C_cond rfl (fun hc115 => ?_) (fun hc115 => ?_)
        · have hlt111 := lt_of_dec hc115
          obtain ⟨x107, h108, h109⟩ := K113 hlt111
          refine C_skip_to (fun _ _ => rfl) ?_
          refine C_seq ?_
          obtain ⟨s117, ho116, h108⟩ := Option.bind_eq_some_iff.1 h108
          refine C_cutG (ι := (Value × (Nat → Prop))) (fun ⟨v119, A124⟩ => [(1, .int .i64 m), (2, .int .i64 age), (9, .pointer (some ⟨b16, 0, none⟩)), (14, v119), (49, v_l), (50, .int .i64 (l.length : Int)), (51, .int .i64 (k93 : Int))]) (fun ⟨v119, A124⟩ => fun w' => Hp w.heap.size A124 w' (obS (α := Int) 3 v119 s117 :: []) ∧ Tr False w.heap.size A105 w102 A124 w') ?_ ?_
          · have hr118 : Tr False w.heap.size A105 w102 A105 w102 := Tr.refl (Dw := False) hA
            refine C_block ?_
            refine C_seq ?_
            refine C_region ?_
            obtain ⟨x126, hx126, ho116⟩ := Option.bind_eq_some_iff.1 ho116
            refine V_indexAddr h_l hx126 Tryz.underlying22 Tryz.sizeOf44 rfl rfl rfl ?_
            intro b127 o128 h129
            obtain ⟨v130, h132, h131⟩ := El_know_Article h129
            refine V_y (Y_loadA h132 Tryz.isAgg44 Tryz.sizeOf44 rfl) rfl rfl rfl ?_
            refine V_alloc Tryz.zeroValue44 rfl ?_
            intro b133 w134 h135
            have h140 : (v130).oneCell' = true := by obtain ⟨_, _, e, _⟩ := Sl.form h131; rw [e]; rfl
            refine V_storeNew h135 Tryz.sizeOf44 rfl rfl rfl rfl (by exact (List.forall_mem_cons.2 ⟨rfl, (List.forall_mem_cons.2 ⟨rfl, (List.forall_mem_cons.2 ⟨h140, (fun _ h => nomatch h)⟩)⟩)⟩)) ?_
            intro w136 h137
            have hk142 := h137.kp (Dw := False)
            have h141 : El (α := know_Article) A105 w136 b133 0 x126 := h137.el hA ⟨[.int .i64 x126.id_], _, rfl, rfl, ⟨[.int .i64 x126.group], _, rfl, rfl, ⟨_, rfl, h131⟩⟩⟩
            have ht143 := Kp.tr (Dw := False) hk142 hA hB
            replace hH := Hp.kp (Dw := False) hH hk142
            replace h88 := El.tr (Dw := False) h88 ht143
            replace h_l := Sl.tr (Dw := False) h_l ht143
            replace h129 := El.tr (Dw := False) h129 ht143
            replace h131 := Sl.tr (Dw := False) h131 ht143
            replace hK := Tr.trans (Dw := False) hK ht143
            replace hr92 := Tr.trans (Dw := False) hr92 ht143
            replace hr118 := Tr.trans (Dw := False) hr118 ht143
            replace hB := Nat.le_trans hB ht143.ex.size
            replace hA := ht143.new
            refine V_to (fun _ _ => rfl) ?_
            refine C_seq ?_
            refine C_region ?_
            obtain ⟨v144, h146, h145⟩ := El_know_Article h141
            refine V_y (Y_loadA h146 Tryz.isAgg44 Tryz.sizeOf44 rfl) rfl rfl rfl ?_
            refine V_y (Y_move rfl) rfl rfl rfl ?_
            obtain ⟨x147, hx147, ho116⟩ := Option.bind_eq_some_iff.1 ho116
            refine V_call Tryz.call16 rfl rfl rfl rfl (portref2_versionAt_c (Dw := False) w136 hA x126 v144 h145 m hx147) ?_
            rintro _ w148 ⟨rfl, hk149⟩
            have ht150 := Kp.tr (Dw := False) hk149 hA hB
            replace hH := Hp.kp (Dw := False) hH hk149
            replace h88 := El.tr (Dw := False) h88 ht150
            replace h_l := Sl.tr (Dw := False) h_l ht150
            replace h141 := El.tr (Dw := False) h141 ht150
            replace h145 := Sl.tr (Dw := False) h145 ht150
            replace hK := Tr.trans (Dw := False) hK ht150
            replace hr92 := Tr.trans (Dw := False) hr92 ht150
            replace hr118 := Tr.trans (Dw := False) hr118 ht150
            replace hB := Nat.le_trans hB ht150.ex.size
            replace hA := ht150.new
            refine V_y (Y_move rfl) rfl rfl rfl ?_
            refine V_y (Y_extract rfl rfl) rfl rfl rfl ?_
            refine V_y (Y_extract rfl rfl) rfl rfl rfl ?_
            refine V_alloc Tryz.zeroValue40 rfl ?_
            intro b151 w152 h153
            refine V_storeNew h153 Tryz.sizeOf40 rfl rfl rfl rfl (by exact (List.forall_mem_cons.2 ⟨rfl, (List.forall_mem_cons.2 ⟨rfl, (List.forall_mem_cons.2 ⟨rfl, (fun _ h => nomatch h)⟩)⟩)⟩)) ?_
            intro w154 h155
            have hk157 := h155.kp (Dw := False)
            have h156 : El (α := know_Version) A105 w154 b151 0 x147.1 := h155.el hA ⟨[.int .i64 x147.1.at_], _, rfl, rfl, ⟨[.string x147.1.title], _, rfl, rfl, rfl⟩⟩
            have ht158 := Kp.tr (Dw := False) hk157 hA hB
            replace hH := Hp.kp (Dw := False) hH hk157
            replace h88 := El.tr (Dw := False) h88 ht158
            replace h_l := Sl.tr (Dw := False) h_l ht158
            replace h141 := El.tr (Dw := False) h141 ht158
            replace h145 := Sl.tr (Dw := False) h145 ht158
            replace hK := Tr.trans (Dw := False) hK ht158
            replace hr92 := Tr.trans (Dw := False) hr92 ht158
            replace hr118 := Tr.trans (Dw := False) hr118 ht158
            replace hB := Nat.le_trans hB ht158.ex.size
            replace hA := ht158.new
            refine V_y (Y_assign rfl) rfl rfl rfl ?_
            refine V_to (fun _ _ => rfl) ?_
            refine C_seq ?_
            obtain ⟨s160, ho159, ho116⟩ := Option.bind_eq_some_iff.1 ho116
            refine C_cutG (ι := (Nat → Prop)) (fun (A165 : (Nat → Prop)) => [(1, .int .i64 m), (2, .int .i64 age), (9, .pointer (some ⟨b16, 0, none⟩)), (14, v103), (16, .pointer (some ⟨b133, 0, none⟩)), (49, v_l), (50, .int .i64 (l.length : Int)), (51, .int .i64 (k93 : Int)), (76, .bool s160)]) (fun (A165 : (Nat → Prop)) => fun w' => Hp w.heap.size A165 w' (obS (α := Int) 3 v103 s101 :: []) ∧ Tr False w.heap.size A105 w154 A165 w') ?_ ?_
            · have hr161 : Tr False w.heap.size A105 w154 A105 w154 := Tr.refl (Dw := False) hA
              refine C_region ?_
              refine V_y (Y_move rfl) rfl rfl rfl ?_
              refine V_y (Y_move rfl) rfl rfl rfl ?_
              rcases Bool.eq_false_or_eq_true (x147.2) with hc167 | hc167
              · rw [if_pos hc167] at ho159
                refine V_ge rfl rfl rfl hc167 ?_
                refine V_y (Y_move rfl) rfl rfl rfl ?_
                refine V_ge rfl rfl rfl hc167 ?_
                have h168 := El_know_Version_0 h156
                refine V_y (Y_fieldAddr Tryz.underlying40 rfl Tryz.sizeOf3 (by decide) rfl) rfl rfl rfl ?_
                refine V_ge rfl rfl rfl hc167 ?_
                refine V_y (Y_load (El.int h168) Tryz.isAgg3 rfl) rfl rfl rfl ?_
                refine V_ge rfl rfl rfl hc167 ?_
                refine V_y (Y_subI rfl rfl) rfl rfl rfl ?_
                refine V_ge rfl rfl rfl hc167 ?_
                refine V_y (Y_move rfl) rfl rfl rfl ?_
                refine V_ge rfl rfl rfl hc167 ?_
                refine V_y (Y_gtr rfl rfl) rfl rfl rfl ?_
                refine V_ge rfl rfl rfl hc167 ?_
                refine V_y (Y_move rfl) rfl rfl rfl ?_
                rcases Bool.eq_false_or_eq_true (decide (age < (w64 (m - x147.1.at_)))) with hc169 | hc169
                · rw [if_pos hc169] at ho159
                  refine V_gn rfl rfl rfl hc169 rfl rfl rfl ?_
                  refine V_gn rfl rfl rfl hc169 rfl rfl rfl ?_
                  refine V_gn rfl rfl rfl hc169 rfl rfl rfl ?_
                  refine V_gn rfl rfl rfl hc169 rfl rfl rfl ?_
                  refine V_gn rfl rfl rfl hc169 rfl rfl rfl ?_
                  refine V_ge rfl rfl rfl hc167 ?_
                  refine V_y (Y_pick_te rfl hc169 rfl) rfl rfl rfl ?_
                  refine V_y (Y_pick_te rfl hc167 rfl) rfl rfl rfl ?_
                  obtain rfl := Option.some.inj ho159
                  refine V_end (fun a ha170 => ?_)
                  exact ⟨A105, ha170.sub ⟨rfl, rfl, rfl, rfl, rfl, rfl, rfl, rfl, rfl, trivial⟩, ⟨hH, hr161⟩⟩
                · rw [if_neg (nt hc169)] at ho159
                  refine V_ge rfl rfl rfl hc169 ?_
                  have h171 := El_know_Version_2 h156
                  refine V_y (Y_fieldAddr Tryz.underlying40 rfl Tryz.sizeOf9 (by decide) rfl) rfl rfl rfl ?_
                  refine V_ge rfl rfl rfl hc169 ?_
                  refine V_y (Y_load (El.str h171) Tryz.isAgg9 rfl) rfl rfl rfl ?_
                  refine V_ge rfl rfl rfl hc169 ?_
                  obtain ⟨x172, hx172, ho159⟩ := Option.bind_eq_some_iff.1 ho159
                  refine V_call Tryz.call17 rfl rfl rfl rfl (portref2_LinksOf_c w154 hA (Fz.tr (Dw := False) hT hK) x147.1.body hx172) ?_
                  rintro v173 w175 ⟨_, rfl, h174, hk176⟩
                  obtain ⟨A177, ht178, hH179⟩ := Hp.addOwnd (Dw := False) hH hB hA hk176 h174
                  replace h88 := El.tr (Dw := False) h88 ht178
                  replace h_l := Sl.tr (Dw := False) h_l ht178
                  replace h141 := El.tr (Dw := False) h141 ht178
                  replace h156 := El.tr (Dw := False) h156 ht178
                  replace h168 := El.tr (Dw := False) h168 ht178
                  replace h171 := El.tr (Dw := False) h171 ht178
                  replace hK := Tr.trans (Dw := False) hK ht178
                  replace hr92 := Tr.trans (Dw := False) hr92 ht178
                  replace hr118 := Tr.trans (Dw := False) hr118 ht178
                  replace hr161 := Tr.trans (Dw := False) hr161 ht178
                  replace hB := Nat.le_trans hB ht178.ex.size
                  replace hA := ht178.new
                  replace hH : Hp w.heap.size A177 w175 (obS (α := Int) 3 v173 x172 :: obS (α := Int) 3 v103 s101 :: []) := hH179
                  refine V_ge rfl rfl rfl hc169 ?_
                  refine V_y (Y_makeFunc rfl rfl) rfl rfl rfl ?_
                  refine V_ge rfl rfl rfl hc169 ?_
                  obtain ⟨x181, hx181, ho159⟩ := Option.bind_eq_some_iff.1 ho159
                  refine V_call Tryz.call11 rfl rfl rfl rfl (slices_ContainsFunc_Lint_int_c (Dw := False) w175 (A := fun _ => True) (fun _ _ => trivial) x172 v173 (Hp.any (α := Int) (e := 3) (v := v173) (l := x172) hH (i := 0) rfl) (fun y189 => portref2_StaleOf_1 y189 (⟨s25⟩ : (Fmap Int Bool))) 18 #[] #[.pointer (some ⟨b16, 0, none⟩)] Tryz.call18 (fun w185 A186 ht187 h188 y182 r183 h184 => (portref2_StaleOf_1_c (Dw := False) w185 h188 y182 (⟨s25⟩ : (Fmap Int Bool)) b16 (El.tr (Dw := False) (El.keep h88 .any) ht187) h184).mono (fun _ _ h => ⟨h.1, h.2⟩)) hx181) ?_
                  rintro _ w190 ⟨rfl, hk191⟩
                  have ht192 := Kp.tr (Dw := False) hk191 hA hB
                  replace hH := Hp.kp (Dw := False) hH hk191
                  replace h88 := El.tr (Dw := False) h88 ht192
                  replace h_l := Sl.tr (Dw := False) h_l ht192
                  replace h141 := El.tr (Dw := False) h141 ht192
                  replace h156 := El.tr (Dw := False) h156 ht192
                  replace h168 := El.tr (Dw := False) h168 ht192
                  replace h171 := El.tr (Dw := False) h171 ht192
                  replace hK := Tr.trans (Dw := False) hK ht192
                  replace hr92 := Tr.trans (Dw := False) hr92 ht192
                  replace hr118 := Tr.trans (Dw := False) hr118 ht192
                  replace hr161 := Tr.trans (Dw := False) hr161 ht192
                  replace hB := Nat.le_trans hB ht192.ex.size
                  replace hA := ht192.new
                  refine V_ge rfl rfl rfl hc167 ?_
                  refine V_y (Y_pick_fe rfl hc169 rfl) rfl rfl rfl ?_
                  refine V_y (Y_pick_te rfl hc167 rfl) rfl rfl rfl ?_
                  obtain rfl := Option.some.inj ho159
                  refine V_end (fun a ha193 => ?_)
                  replace hH : Hp w.heap.size A177 w190 (obS (α := Int) 3 v103 s101 :: obS (α := Int) 3 v173 x172 :: []) := Hp.front hH (i := 1) rfl
                  replace hH : Hp w.heap.size A177 w190 (obS (α := Int) 3 v103 s101 :: []) := Hp.drop hH (i := 1) rfl
                  exact ⟨A177, ha193.sub ⟨rfl, rfl, rfl, rfl, rfl, rfl, rfl, rfl, rfl, trivial⟩, ⟨hH, hr161⟩⟩
              · rw [if_neg (nt hc167)] at ho159
                refine V_gn rfl rfl rfl hc167 rfl rfl rfl ?_
                refine V_gn rfl rfl rfl hc167 rfl rfl rfl ?_
                refine V_gn rfl rfl rfl hc167 rfl rfl rfl ?_
                refine V_gn rfl rfl rfl hc167 rfl rfl rfl ?_
                refine V_gn rfl rfl rfl hc167 rfl rfl rfl ?_
                refine V_gn rfl rfl rfl hc167 rfl rfl rfl ?_
                refine V_gn rfl rfl rfl hc167 rfl rfl rfl ?_
                refine V_gu rfl rfl rfl rfl rfl ?_
                refine V_gu rfl rfl rfl rfl rfl ?_
                refine V_gu rfl rfl rfl rfl rfl ?_
                refine V_gu rfl rfl rfl rfl rfl ?_
                refine V_gu rfl rfl rfl rfl rfl ?_
                refine V_gn rfl rfl rfl hc167 rfl rfl rfl ?_
                refine V_y (Y_pick_fe rfl hc167 rfl) rfl rfl rfl ?_
                obtain rfl := Option.some.inj ho159
                refine V_end (fun a ha194 => ?_)
                exact ⟨A105, ha194.sub ⟨rfl, rfl, rfl, rfl, rfl, rfl, rfl, rfl, rfl, trivial⟩, ⟨hH, hr161⟩⟩
            rintro A165 w162 ⟨hH166, hk163⟩ a ha164
            replace h88 := El.tr (Dw := False) h88 hk163
            replace h_l := Sl.tr (Dw := False) h_l hk163
            replace h141 := El.tr (Dw := False) h141 hk163
            replace hK := Tr.trans (Dw := False) hK hk163
            replace hr92 := Tr.trans (Dw := False) hr92 hk163
            replace hr118 := Tr.trans (Dw := False) hr118 hk163
            replace hB := Nat.le_trans hB hk163.ex.size
            replace hA := hk163.new
            replace hH : Hp w.heap.size A165 w162 (obS (α := Int) 3 v103 s101 :: []) := hH166
            refine C_at (n := ⟨84, [], none⟩) (fun _ _ => rfl) ?_ ha164
            obtain ⟨s196, ho195, ho116⟩ := Option.bind_eq_some_iff.1 ho116
            refine C_cutG (ι := (Value × (Nat → Prop))) (fun ⟨v198, A203⟩ => [(1, .int .i64 m), (2, .int .i64 age), (9, .pointer (some ⟨b16, 0, none⟩)), (14, v198), (49, v_l), (50, .int .i64 (l.length : Int)), (51, .int .i64 (k93 : Int))]) (fun ⟨v198, A203⟩ => fun w' => Hp w.heap.size A203 w' (obS (α := Int) 3 v198 s196 :: []) ∧ Tr False w.heap.size A165 w162 A203 w') ?_ ?_
            · have hr197 : Tr False w.heap.size A165 w162 A165 w162 := Tr.refl (Dw := False) hA
              refine C_cond rfl (fun hc205 => ?_) (fun hc205 => ?_)
              · rw [if_pos hc205] at ho195
                refine C_region ?_
                refine V_y (Y_move rfl) rfl rfl rfl ?_
                have h206 := El_know_Article_0 h141
                refine V_y (Y_fieldAddr Tryz.underlying44 rfl Tryz.sizeOf3 (by decide) rfl) rfl rfl rfl ?_
                refine V_y (Y_load (El.int h206) Tryz.isAgg3 rfl) rfl rfl rfl ?_
                refine V_buildSlice (Dw := False) (l := ([x126.id_] : List Int)) (len := 1) Tryz.underlying23 Tryz.sizeOf3 Tryz.zeroValue3 rfl (by with_unfolding_all rfl) (show (1 * 1 : Nat) ≠ 0 by decide) (show (1 * 1 : Nat) ≤ 2 ^ 24 by decide) hA ⟨[.int .i64 x126.id_], _, rfl, rfl, rfl⟩ rfl rfl ?_
                intro v207 w208 hk210 h209
                have ht211 := Kp.tr (Dw := False) hk210 hA hB
                replace hH := Hp.kp (Dw := False) hH hk210
                replace h88 := El.tr (Dw := False) h88 ht211
                replace h_l := Sl.tr (Dw := False) h_l ht211
                replace h141 := El.tr (Dw := False) h141 ht211
                replace h206 := El.tr (Dw := False) h206 ht211
                replace hK := Tr.trans (Dw := False) hK ht211
                replace hr92 := Tr.trans (Dw := False) hr92 ht211
                replace hr118 := Tr.trans (Dw := False) hr118 ht211
                replace hr197 := Tr.trans (Dw := False) hr197 ht211
                replace hB := Nat.le_trans hB ht211.ex.size
                replace hA := ht211.new
                obtain ⟨x212, hx212, ho195⟩ := Option.bind_eq_some_iff.1 ho195
                refine V_appendH (Dw := False) (e := 3) (v := v103) (l := s101) (ti := Tryz.t3) (bytes := 8) (lim := 17592186044416) hH (i := 0) rfl h209 hx212 Tryz.underlying23 Tryz_info3 rfl rfl rfl rfl (by decide) (by decide) (by decide) hB hA rfl rfl rfl ?_
                intro v213 w214 A215 hH216 ht217
                replace h88 := El.tr (Dw := False) h88 ht217
                replace h_l := Sl.tr (Dw := False) h_l ht217
                replace h141 := El.tr (Dw := False) h141 ht217
                replace h206 := El.tr (Dw := False) h206 ht217
                replace h209 := Sl.tr (Dw := False) h209 ht217
                replace hK := Tr.trans (Dw := False) hK ht217
                replace hr92 := Tr.trans (Dw := False) hr92 ht217
                replace hr118 := Tr.trans (Dw := False) hr118 ht217
                replace hr197 := Tr.trans (Dw := False) hr197 ht217
                replace hB := Nat.le_trans hB ht217.ex.size
                replace hA := ht217.new
                replace hH : Hp w.heap.size A215 w214 (obS (α := Int) 3 v213 x212 :: []) := hH216
                refine V_y (Y_assign rfl) rfl rfl rfl ?_
                obtain rfl := Option.some.inj ho195
                refine V_end (fun a ha218 => ?_)
                exact ⟨(v213, A215), ha218.sub ⟨rfl, rfl, rfl, rfl, rfl, rfl, rfl, trivial⟩, ⟨hH, hr197⟩⟩
              · rw [if_neg (nt hc205)] at ho195
                obtain rfl := Option.some.inj ho195
                refine C_skip (fun a ha219 => ?_)
                exact ⟨(v103, A165), ha219.sub ⟨rfl, rfl, rfl, rfl, rfl, rfl, rfl, trivial⟩, ⟨hH, hr197⟩⟩
            rintro ⟨v198, A203⟩ w200 ⟨hH204, hk201⟩ a ha202
            replace h88 := El.tr (Dw := False) h88 hk201
            replace h_l := Sl.tr (Dw := False) h_l hk201
            replace hK := Tr.trans (Dw := False) hK hk201
            replace hr92 := Tr.trans (Dw := False) hr92 hk201
            replace hr118 := Tr.trans (Dw := False) hr118 hk201
            replace hB := Nat.le_trans hB hk201.ex.size
            replace hA := hk201.new
            replace hH : Hp w.heap.size A203 w200 (obS (α := Int) 3 v198 s196 :: []) := hH204
            obtain rfl := Option.some.inj ho116
            exact ⟨(v198, A203), ha202.sub ⟨rfl, rfl, rfl, rfl, rfl, rfl, rfl, trivial⟩, ⟨hH, hr118⟩⟩
          rintro ⟨v119, A124⟩ w121 ⟨hH125, hk122⟩ a ha123
          replace h88 := El.tr (Dw := False) h88 hk122
          replace h_l := Sl.tr (Dw := False) h_l hk122
          replace hK := Tr.trans (Dw := False) hK hk122
          replace hr92 := Tr.trans (Dw := False) hr92 hk122
          replace hB := Nat.le_trans hB hk122.ex.size
          replace hA := hk122.new
          replace hH : Hp w.heap.size A124 w121 (obS (α := Int) 3 v119 s117 :: []) := hH125
          refine C_at (n := ⟨84, [], none⟩) (fun _ _ => rfl) ?_ ha123
          refine C_region ?_
          refine V_y (Y_addI rfl rfl) rfl rfl rfl ?_
          refine V_y (Y_move rfl) rfl rfl rfl ?_
          obtain rfl := Option.some.inj h108
          refine V_end (fun a ha221 => ?_)
          exact ⟨s117, hlt111, h109, ⟨(v119, A124), ha221.sub ⟨rfl, rfl, rfl, rfl, rfl, rfl, (congrArg (fun z => some (Value.int .i64 z)) (w64_succ hlt111 hn114)), trivial⟩, ⟨hH, hr92⟩⟩⟩
        · refine C_exit (fun a ha222 => ?_)
          exact ⟨(s101, v103, A105), ha222.sub ⟨rfl, trivial⟩, ⟨(h112 (eq_of_dec hle110 hc115)).symm, hH, hr92⟩⟩
      rintro ⟨s91, v97, A99⟩ w94 ⟨rfl, hH100, hk95⟩ a ha96
      rw [Lp.andThen_fin] at hm
      replace hK := Tr.trans (Dw := False) hK hk95
      replace hB := Nat.le_trans hB hk95.ex.size
      replace hA := hk95.new
      replace hH : Hp w.heap.size A99 w94 (obS (α := Int) 3 v97 s91 :: []) := hH100
      refine C_at (n := ⟨84, [], none⟩) (fun _ _ => rfl) ?_ ha96
      refine C_seq ?_
      refine C_region ?_
      refine V_y (Y_move rfl) rfl rfl rfl ?_
      refine V_y (Y_assign rfl) rfl rfl rfl ?_
      refine V_y (Y_assign rfl) rfl rfl rfl ?_
      refine V_to (fun _ _ => rfl) ?_
      obtain rfl := Option.some.inj hm
      refine C_ret ?_
      try simp only [↓inBlock_ret, ↓then_ret]
      exact retQ rfl (Res.two Tryz.results5 rfl rfl) ⟨v97, rfl, (Hp.ownd hH (i := 0) rfl), hK.kp⟩

set_option maxRecDepth 4000 in
set_option maxHeartbeats 4000000 in
theorem slices_Equal_Lint_int_c (w : World) {A : Nat → Prop} (hA : ∀ b, w.heap.size ≤ b → A b) (s1 : (List Int)) (v_s1 : Value) (h_s1 : Sl A w v_s1 s1) (s2 : (List Int)) (v_s2 : Value) (h_s2 : Sl A w v_s2 s2) {r : Bool} (hm : slices_Equal_Lint_int s1 s2 = some r) : Ret Tryz.prog 6 #[v_s1, v_s2] w fun v w' => v = .bool r ∧ Kp Dw w w' := by
  unfold slices_Equal_Lint_int at hm
  refine enter Tryz.func6 rfl Tryz.ntmps6 rfl ?_
  have hA0 := hA
  have hB := Nat.le_refl w.heap.size
  have hK : Tr Dw w.heap.size A w A w := Tr.refl (Dw := Dw) hA
  have hH : Hp w.heap.size A w [] := Hp.nil
  refine C_seq ?_
  refine C_region ?_
  refine V_y (Y_assign rfl) rfl rfl rfl ?_
  refine V_to (fun _ _ => rfl) ?_
  refine C_seq ?_
  refine C_seq ?_
  refine C_region ?_
  refine V_y (Y_move rfl) rfl rfl rfl ?_
  refine V_y (Y_lenSl h_s1 rfl Tryz.underlying23 rfl) rfl rfl rfl ?_
  refine V_y (Y_move rfl) rfl rfl rfl ?_
  refine V_y (Y_lenSl h_s2 rfl Tryz.underlying23 rfl) rfl rfl rfl ?_
  refine V_y (Y_neq rfl rfl) rfl rfl rfl ?_
  refine V_to (fun _ _ => rfl) ?_
  refine C_cond rfl (fun hc5 => ?_) (fun hc5 => ?_)
  · rw [if_pos hc5] at hm
    refine C_seq ?_
    refine C_region ?_
    refine V_y (Y_assign rfl) rfl rfl rfl ?_
    refine V_to (fun _ _ => rfl) ?_
    obtain rfl := Option.some.inj hm
    refine C_ret ?_
    try simp only [↓inBlock_ret, ↓then_ret]
    exact retQ rfl (Res.one Tryz.results6 rfl) ⟨rfl, hK.kp⟩
  · rw [if_neg (nt hc5)] at hm
    refine C_skip_to (fun _ _ => rfl) ?_
    refine C_seq ?_
    refine C_seq ?_
    refine C_region ?_
    refine V_y (Y_move rfl) rfl rfl rfl ?_
    refine V_y (Y_lenSl h_s1 rfl Tryz.underlying23 rfl) rfl rfl rfl ?_
    refine V_y (Y_move rfl) rfl rfl rfl ?_
    refine V_to (fun _ _ => rfl) ?_
    have hn27 := Sl.le h_s1
    obtain ⟨o6, ho6, hm⟩ := Option.bind_eq_some_iff.1 hm
    refine C_cutG (ι := (Unit × (Nat → Prop))) (fun ⟨s7, A13⟩ => []) (fun ⟨s7, A13⟩ => fun w' => o6 = .fin s7 ∧ Hp w.heap.size A13 w' ([]) ∧ Tr Dw w.heap.size A w A13 w') ?_ ?_
    · refine C_block ?_
      refine C_range ho6 (fun k9 _ a w' => ∃ i : (Nat → Prop), Has ⟨26, [], none⟩ a ([(0, v_s1), (1, v_s2), (12, .int .i64 (s1.length : Int)), (13, .int .i64 (k9 : Int))]) ∧ Hp w.heap.size i w' ([]) ∧ Tr Dw w.heap.size A w i w') (fun a ha => ⟨A, ha.sub ⟨rfl, rfl, rfl, rfl, trivial⟩, ⟨hH, Tr.refl (Dw := Dw) hA⟩⟩) ?_
      rintro K k9 _ a w17 ⟨A18, ha43, hH19, hr8⟩ hle23 K26 h25
      refine C_of ?_ ha43
      replace h_s1 := Sl.tr (Dw := Dw) h_s1 hr8
      replace h_s2 := Sl.tr (Dw := Dw) h_s2 hr8
      replace hK := Tr.trans (Dw := Dw) hK hr8
      replace hB := Nat.le_trans hB hr8.ex.size
      replace hA := hr8.new
      replace hH : Hp w.heap.size A18 w17 ([]) := hH19
      refine C_seq (C_region (V_y (Y_lss rfl rfl) rfl rfl rfl (V_to (fun _ _ => rfl) ?_)))
      refine C_seq ?_
      refine C_cond rfl (fun hc28 => ?_) (fun hc28 => ?_)
      · have hlt24 := lt_of_dec hc28
        obtain ⟨x20, h21, h22⟩ := K26 hlt24
        refine C_skip_to (fun _ _ => rfl) ?_
        refine C_seq ?_
        refine C_block ?_
        refine C_seq ?_
        refine C_region ?_
        refine V_y (Y_move rfl) rfl rfl rfl ?_
        refine V_y (Y_assign rfl) rfl rfl rfl ?_
        refine V_to (fun _ _ => rfl) ?_
        refine C_seq ?_
        refine C_region_q (Dw := Dw) Tryz_mixed (by kernel_rfl) ?_
        refine VQ_y (fun w' hw' => Y_move rfl) rfl rfl rfl ?_
        refine VQ_y (fun w' hw' => Y_move rfl) rfl rfl rfl ?_
        obtain ⟨x29, hx29, h21⟩ := Option.bind_eq_some_iff.1 h21
        refine VQ_indexAddr h_s1 hx29 Tryz.underlying23 Tryz.sizeOf3 rfl rfl rfl ?_
        intro b30 o31 h32
        refine VQ_y (fun w' hw' => Y_load (El.int (El.kp (Dw := Dw) h32 hw')) Tryz.isAgg3 rfl) rfl rfl rfl ?_
        refine VQ_y (fun w' hw' => Y_move rfl) rfl rfl rfl ?_
        refine VQ_y (fun w' hw' => Y_move rfl) rfl rfl rfl ?_
        obtain ⟨x33, hx33, h21⟩ := Option.bind_eq_some_iff.1 h21
        refine VQ_indexAddr h_s2 hx33 Tryz.underlying23 Tryz.sizeOf3 rfl rfl rfl ?_
        intro b34 o35 h36
        refine VQ_y (fun w' hw' => Y_load (El.int (El.kp (Dw := Dw) h36 hw')) Tryz.isAgg3 rfl) rfl rfl rfl ?_
        refine VQ_y (fun w' hw' => Y_neq rfl rfl) rfl rfl rfl ?_
        refine VQ_to (fun _ _ => rfl) (fun w37 hk38 => ?_)
        have ht39 := Kp.tr (Dw := Dw) hk38 hA hB
        replace hH := Hp.kp (Dw := Dw) hH hk38
        replace h_s1 := Sl.tr (Dw := Dw) h_s1 ht39
        replace h_s2 := Sl.tr (Dw := Dw) h_s2 ht39
        replace hK := Tr.trans (Dw := Dw) hK ht39
        replace hr8 := Tr.trans (Dw := Dw) hr8 ht39
        replace hB := Nat.le_trans hB ht39.ex.size
        replace hA := ht39.new
        refine C_cond rfl (fun hc40 => ?_) (fun hc40 => ?_)
        · rw [if_pos hc40] at h21
          refine C_seq ?_
          refine C_region ?_
          refine V_y (Y_assign rfl) rfl rfl rfl ?_
          refine V_to (fun _ _ => rfl) ?_
          obtain rfl := Option.some.inj h21
          obtain rfl := (h22 : Lp.rt _ = _)
          rw [Lp.andThen_rt] at hm
          obtain rfl := Option.some.inj hm
          refine C_ret ?_
          try simp only [↓inBlock_ret, ↓then_ret]
          exact retQ rfl (Res.one Tryz.results6 rfl) ⟨rfl, hK.kp⟩
        · rw [if_neg (nt hc40)] at h21
          refine C_skip_to (fun _ _ => rfl) ?_
          refine C_region ?_
          refine V_y (Y_addI rfl rfl) rfl rfl rfl ?_
          refine V_y (Y_move rfl) rfl rfl rfl ?_
          obtain rfl := Option.some.inj h21
          refine V_end (fun a ha41 => ?_)
          exact ⟨(), hlt24, h22, ⟨A18, ha41.sub ⟨rfl, rfl, rfl, (congrArg (fun z => some (Value.int .i64 z)) (w64_succ hlt24 hn27)), trivial⟩, ⟨hH, hr8⟩⟩⟩
      · refine C_exit (fun a ha42 => ?_)
        exact ⟨((), A18), ha42.sub trivial, ⟨(h25 (eq_of_dec hle23 hc28)).symm, hH, hr8⟩⟩
    rintro ⟨s7, A13⟩ w10 ⟨rfl, hH14, hk11⟩ a ha12
    rw [Lp.andThen_fin] at hm
    replace hK := Tr.trans (Dw := Dw) hK hk11
    replace hB := Nat.le_trans hB hk11.ex.size
    replace hA := hk11.new
    replace hH : Hp w.heap.size A13 w10 ([]) := hH14
    refine C_at (n := ⟨26, [], none⟩) (fun _ _ => rfl) ?_ ha12
    refine C_seq ?_
    refine C_region ?_
    refine V_y (Y_assign rfl) rfl rfl rfl ?_
    refine V_to (fun _ _ => rfl) ?_
    obtain rfl := Option.some.inj hm
    refine C_ret ?_
    try simp only [↓inBlock_ret, ↓then_ret]
    exact retQ rfl (Res.one Tryz.results6 rfl) ⟨rfl, hK.kp⟩

set_option maxRecDepth 4000 in
set_option maxHeartbeats 4000000 in
theorem portlaw2_KnowStale_c (w : World) {A : Nat → Prop} (hA : ∀ b, w.heap.size ≤ b → A b) (hT : Fz Tryz_FR A w) (l : (List know_Article)) (v_l : Value) (h_l : Sl A w v_l l) (m : Int) (age : Int) {r : Bool} (hm : portlaw2_KnowStale l m age = some r) : Ret Tryz.prog 3 #[v_l, .int .i64 m, .int .i64 age] w fun v w' => v = .bool r ∧ Kp False w w' := by
  unfold portlaw2_KnowStale at hm
  refine enter Tryz.func3 rfl Tryz.ntmps3 rfl ?_
  have hA0 := hA
  have hB := Nat.le_refl w.heap.size
  have hK : Tr False w.heap.size A w A w := Tr.refl (Dw := False) hA
  have hH : Hp w.heap.size A w [] := Hp.nil
  refine C_seq ?_
  refine C_region ?_
  refine V_y (Y_assign rfl) rfl rfl rfl ?_
  refine V_to (fun _ _ => rfl) ?_
  refine C_seq ?_
  refine C_region ?_
  refine V_y (Y_move rfl) rfl rfl rfl ?_
  refine V_y (Y_move rfl) rfl rfl rfl ?_
  refine V_y (Y_move rfl) rfl rfl rfl ?_
  obtain ⟨x3, hx3, hm⟩ := Option.bind_eq_some_iff.1 hm
  refine V_call Tryz.call4 rfl rfl rfl rfl (know_Stale_c (Dw := False) w hA (Fz.tr (Dw := False) hT hK) l v_l h_l m age hx3) ?_
  rintro _ w6 ⟨v4, rfl, h5, hk7⟩
  obtain ⟨A8, ht9, hH10⟩ := Hp.addOwnd (Dw := False) hH hB hA hk7 h5
  replace h_l := Sl.tr (Dw := False) h_l ht9
  replace hK := Tr.trans (Dw := False) hK ht9
  replace hB := Nat.le_trans hB ht9.ex.size
  replace hA := ht9.new
  replace hH : Hp w.heap.size A8 w6 (obS (α := Int) 3 v4 x3.1 :: []) := hH10
  refine V_y (Y_move rfl) rfl rfl rfl ?_
  refine V_y (Y_extract rfl rfl) rfl rfl rfl ?_
  refine V_y (Y_extract rfl rfl) rfl rfl rfl ?_
  refine V_y (Y_assign rfl) rfl rfl rfl ?_
  refine V_y (Y_assign rfl) rfl rfl rfl ?_
  refine V_to (fun _ _ => rfl) ?_
  refine C_seq ?_
  refine C_region ?_
  refine V_y (Y_move rfl) rfl rfl rfl ?_
  refine V_y (Y_move rfl) rfl rfl rfl ?_
  refine V_y (Y_move rfl) rfl rfl rfl ?_
  obtain ⟨x11, hx11, hm⟩ := Option.bind_eq_some_iff.1 hm
  refine V_call Tryz.call5 rfl rfl rfl rfl (portref2_StaleOf_c w6 hA (Fz.tr (Dw := False) hT hK) l v_l h_l m age hx11) ?_
  rintro _ w14 ⟨v12, rfl, h13, hk15⟩
  obtain ⟨A16, ht17, hH18⟩ := Hp.addOwnd (Dw := False) hH hB hA hk15 h13
  replace h_l := Sl.tr (Dw := False) h_l ht17
  replace hK := Tr.trans (Dw := False) hK ht17
  replace hB := Nat.le_trans hB ht17.ex.size
  replace hA := ht17.new
  replace hH : Hp w.heap.size A16 w14 (obS (α := Int) 3 v12 x11.1 :: obS (α := Int) 3 v4 x3.1 :: []) := hH18
  refine V_y (Y_move rfl) rfl rfl rfl ?_
  refine V_y (Y_extract rfl rfl) rfl rfl rfl ?_
  refine V_y (Y_extract rfl rfl) rfl rfl rfl ?_
  refine V_y (Y_assign rfl) rfl rfl rfl ?_
  refine V_y (Y_assign rfl) rfl rfl rfl ?_
  refine V_to (fun _ _ => rfl) ?_
  refine C_seq ?_
  obtain ⟨s20, ho19, hm⟩ := Option.bind_eq_some_iff.1 hm
  refine C_cutG (ι := (Nat → Prop)) (fun (A25 : (Nat → Prop)) => [(6, .bool s20)]) (fun (A25 : (Nat → Prop)) => fun w' => Hp w.heap.size A25 w' (obS (α := Int) 3 v12 x11.1 :: obS (α := Int) 3 v4 x3.1 :: []) ∧ Tr False w.heap.size A16 w14 A25 w') ?_ ?_
  · have hr21 : Tr False w.heap.size A16 w14 A16 w14 := Tr.refl (Dw := False) hA
    refine C_region ?_
    refine V_y (Y_move rfl) rfl rfl rfl ?_
    refine V_y (Y_move rfl) rfl rfl rfl ?_
    refine V_y (Y_eql rfl rfl) rfl rfl rfl ?_
    refine V_y (Y_move rfl) rfl rfl rfl ?_
    rcases Bool.eq_false_or_eq_true (x3.2 == x11.2) with hc27 | hc27
    · rw [if_pos hc27] at ho19
      refine V_ge rfl rfl rfl hc27 ?_
      refine V_y (Y_move rfl) rfl rfl rfl ?_
      refine V_ge rfl rfl rfl hc27 ?_
      refine V_y (Y_move rfl) rfl rfl rfl ?_
      refine V_ge rfl rfl rfl hc27 ?_
      obtain ⟨x28, hx28, ho19⟩ := Option.bind_eq_some_iff.1 ho19
      refine V_call Tryz.call6 rfl rfl rfl rfl (slices_Equal_Lint_int_c (Dw := False) w14 (A := fun _ => True) (fun _ _ => trivial) x3.1 v4 (Hp.any (α := Int) (e := 3) (v := v4) (l := x3.1) hH (i := 1) rfl) x11.1 v12 (Hp.any (α := Int) (e := 3) (v := v12) (l := x11.1) hH (i := 0) rfl) hx28) ?_
      rintro _ w29 ⟨rfl, hk30⟩
      have ht31 := Kp.tr (Dw := False) hk30 hA hB
      replace hH := Hp.kp (Dw := False) hH hk30
      replace hK := Tr.trans (Dw := False) hK ht31
      replace hr21 := Tr.trans (Dw := False) hr21 ht31
      replace hB := Nat.le_trans hB ht31.ex.size
      replace hA := ht31.new
      refine V_y (Y_pick_te rfl hc27 rfl) rfl rfl rfl ?_
      refine V_y (Y_assign rfl) rfl rfl rfl ?_
      obtain rfl := Option.some.inj ho19
      refine V_end (fun a ha32 => ?_)
      exact ⟨A16, ha32.sub ⟨rfl, trivial⟩, ⟨hH, hr21⟩⟩
    · rw [if_neg (nt hc27)] at ho19
      refine V_gn rfl rfl rfl hc27 rfl rfl rfl ?_
      refine V_gn rfl rfl rfl hc27 rfl rfl rfl ?_
      refine V_gn rfl rfl rfl hc27 rfl rfl rfl ?_
      refine V_y (Y_pick_fe rfl hc27 rfl) rfl rfl rfl ?_
      refine V_y (Y_assign rfl) rfl rfl rfl ?_
      obtain rfl := Option.some.inj ho19
      refine V_end (fun a ha33 => ?_)
      exact ⟨A16, ha33.sub ⟨rfl, trivial⟩, ⟨hH, hr21⟩⟩
  rintro A25 w22 ⟨hH26, hk23⟩ a ha24
  replace hK := Tr.trans (Dw := False) hK hk23
  replace hB := Nat.le_trans hB hk23.ex.size
  replace hA := hk23.new
  replace hH : Hp w.heap.size A25 w22 (obS (α := Int) 3 v12 x11.1 :: obS (α := Int) 3 v4 x3.1 :: []) := hH26
  refine C_at (n := ⟨33, [], none⟩) (fun _ _ => rfl) ?_ ha24
  obtain rfl := Option.some.inj hm
  refine C_ret ?_
  try simp only [↓inBlock_ret, ↓then_ret]
  exact retQ rfl (Res.one Tryz.results3 rfl) ⟨rfl, hK.kp⟩

end Go.Proofs.YteoinebegjpodaaGreatDoor.W
