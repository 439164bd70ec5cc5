/-
  Written by program (gen.py) from the IR of the dump: each function computes its model.
-/
import Derived.Test.YtehofjchjogbkaaDoorRouteDutyW1
namespace Go.Proofs.YtehofjchjogbkaaDoor.W
open Go Go.RowKit Go.Pu Go.Gw Go.Proofs Go.Proofs.YtehofjchjogbkaaDoor.M
set_option linter.unusedVariables false
set_option linter.unusedSimpArgs false
variable {Dw : Prop}

set_option maxRecDepth 4000 in
set_option maxHeartbeats 4000000 in
theorem route_OnDuty_c (w : World) {A : Nat → Prop} (hA : ∀ b, w.heap.size ≤ b → A b) (people : (List route_Person)) (v_people : Value) (h_people : Sl A w v_people people) (cals : (List cal_Calendar)) (v_cals : Value) (h_cals : Sl A w v_cals cals) (m : Int) {r : ((List Int) × Int)} (hm : route_OnDuty people cals m = some r) : Ret Tryd.prog 4 #[v_people, v_cals, .int .i64 m] w fun v w' => ∃ s0, v = .tuple #[s0, .int .i64 r.2] ∧ Ownd 3 w w' s0 r.1 ∧ Kp Dw w w' := by
  unfold route_OnDuty at hm
  refine enter Tryd.func4 rfl Tryd.ntmps4 rfl ?_
  have hA0 := hA
  have hB := Nat.le_refl w.heap.size
  have hK : Tr Dw w.heap.size A w A w := Tr.refl (Dw := Dw) hA
  have hH : Hp w.heap.size A w [] := Hp.nil
  refine C_seq ?_
  refine C_region ?_
  refine V_y (Y_assign rfl) rfl rfl rfl ?_
  refine V_y (Y_assign rfl) rfl rfl rfl ?_
  refine V_to (fun _ _ => rfl) ?_
  refine C_seq ?_
  refine C_seq ?_
  refine C_region ?_
  refine V_y (Y_move rfl) rfl rfl rfl ?_
  refine V_y (Y_move rfl) rfl rfl rfl ?_
  obtain ⟨x5, hx5, hm⟩ := Option.bind_eq_some_iff.1 hm
  refine V_call Tryd.call10 rfl rfl rfl rfl (route_checkCals_c (Dw := Dw) w hA people v_people h_people cals v_cals h_cals hx5) ?_
  rintro _ w6 ⟨rfl, hk7⟩
  have ht8 := Kp.tr (Dw := Dw) hk7 hA hB
  replace hH := Hp.kp (Dw := Dw) hH hk7
  replace h_people := Sl.tr (Dw := Dw) h_people ht8
  replace h_cals := Sl.tr (Dw := Dw) h_cals ht8
  replace hK := Tr.trans (Dw := Dw) hK ht8
  replace hB := Nat.le_trans hB ht8.ex.size
  replace hA := ht8.new
  refine V_y (Y_move rfl) rfl rfl rfl ?_
  refine V_call Tryd.call11 rfl rfl rfl rfl (route_moment_c w6 m) ?_
  rintro _ _ ⟨rfl, rfl⟩
  refine V_buildSlice (Dw := Dw) (cells := #[.int .i64 x5, .int .i64 (route_moment m)]) (l := ([x5, (route_moment m)] : List Int)) (len := 2) Tryd.underlying55 Tryd.sizeOf25 Tryd.zeroValue25 rfl (by generalize ((route_moment m) : Int) = z13; kernel_rfl) (show (2 * 1 : Nat) ≠ 0 by decide) (show (2 * 1 : Nat) ≤ 2 ^ 24 by decide) hA ⟨[.int .i64 x5], _, rfl, rfl, ⟨[.int .i64 (route_moment m)], _, rfl, rfl, rfl⟩⟩ rfl rfl ?_
  intro v9 w10 hk12 h11
  have ht14 := Kp.tr (Dw := Dw) hk12 hA hB
  replace hH := Hp.kp (Dw := Dw) hH hk12
  replace h_people := Sl.tr (Dw := Dw) h_people ht14
  replace h_cals := Sl.tr (Dw := Dw) h_cals ht14
  replace hK := Tr.trans (Dw := Dw) hK ht14
  replace hB := Nat.le_trans hB ht14.ex.size
  replace hA := ht14.new
  obtain ⟨x15, hx15, hm⟩ := Option.bind_eq_some_iff.1 hm
  refine V_call Tryd.call9 rfl rfl rfl rfl (cmp_Or_api_Errno_c w10 ([x5, (route_moment m)] : List Int) v9 h11 hx15) ?_
  rintro _ _ ⟨rfl, rfl⟩
  refine V_y (Y_assign rfl) rfl rfl rfl ?_
  refine V_to (fun _ _ => rfl) ?_
  refine C_seq ?_
  refine C_region ?_
  refine V_y (Y_move rfl) rfl rfl rfl ?_
  refine V_y (Y_neq rfl rfl) rfl rfl rfl ?_
  refine V_to (fun _ _ => rfl) ?_
  refine C_cond rfl (fun hc16 => ?_) (fun hc16 => ?_)
  · rw [if_pos hc16] at hm
    refine C_seq ?_
    refine C_region ?_
    refine V_y (Y_move rfl) rfl rfl rfl ?_
    refine V_y (Y_assign rfl) rfl rfl rfl ?_
    refine V_y (Y_assign rfl) rfl rfl rfl ?_
    refine V_to (fun _ _ => rfl) ?_
    obtain rfl := Option.some.inj hm
    replace hH : Hp w.heap.size A w10 (obS (α := Int) 3 (.slice none 0 0) ([] : (List Int)) :: []) := Hp.addNil (α := Int) (e := 3) hH
    refine C_ret ?_
    try simp only [↓inBlock_ret, ↓then_ret]
    exact retQ rfl (Res.two Tryd.results4 rfl rfl) ⟨.slice none 0 0, rfl, (Hp.ownd hH (i := 0) rfl), hK.kp⟩
  · rw [if_neg (nt hc16)] at hm
    refine C_skip_to (fun _ _ => rfl) ?_
    refine C_seq ?_
    refine C_region ?_
    refine V_y (Y_assign rfl) rfl rfl rfl ?_
    refine V_to (fun _ _ => rfl) ?_
    refine C_seq ?_
    refine C_seq ?_
    refine C_region ?_
    refine V_y (Y_move rfl) rfl rfl rfl ?_
    refine V_y (Y_lenSl h_people rfl Tryd.underlying22 rfl) rfl rfl rfl ?_
    refine V_y (Y_move rfl) rfl rfl rfl ?_
    refine V_to (fun _ _ => rfl) ?_
    replace hH : Hp w.heap.size A w10 (obS (α := Int) 3 (.slice none 0 0) ([] : (List Int)) :: []) := Hp.addNil (α := Int) (e := 3) hH
    have hn41 := Sl.le h_people
    obtain ⟨o17, ho17, hm⟩ := Option.bind_eq_some_iff.1 hm
    refine C_cutG (ι := ((List Int) × Value × (Nat → Prop))) (fun ⟨s18, v24, A26⟩ => [(9, v24)]) (fun ⟨s18, v24, A26⟩ => fun w' => o17 = .fin s18 ∧ Hp w.heap.size A26 w' (obS (α := Int) 3 v24 s18 :: []) ∧ Tr Dw w.heap.size A w10 A26 w') ?_ ?_
    · refine C_block ?_
      refine C_range ho17 (fun k20 s28 a w' => ∃ i : (Value × (Nat → Prop)), Has ⟨48, [], none⟩ a ([(1, v_cals), (2, .int .i64 m), (9, i.1), (24, v_people), (25, .int .i64 (people.length : Int)), (26, .int .i64 (k20 : Int))]) ∧ Hp w.heap.size i.2 w' (obS (α := Int) 3 i.1 s28 :: []) ∧ Tr Dw w.heap.size A w10 i.2 w') (fun a ha => ⟨(.slice none 0 0, A), ha.sub ⟨rfl, rfl, rfl, rfl, rfl, rfl, trivial⟩, ⟨hH, Tr.refl (Dw := Dw) hA⟩⟩) ?_
      rintro K k20 s28 a w29 ⟨⟨v30, A32⟩, ha115, hH33, hr19⟩ hle37 K40 h39
      refine C_of ?_ ha115
      replace h_cals := Sl.tr (Dw := Dw) h_cals hr19
      replace h_people := Sl.tr (Dw := Dw) h_people hr19
      replace hK := Tr.trans (Dw := Dw) hK hr19
      replace hB := Nat.le_trans hB hr19.ex.size
      replace hA := hr19.new
      replace hH : Hp w.heap.size A32 w29 (obS (α := Int) 3 v30 s28 :: []) := hH33
      refine C_seq (C_region (V_y (Y_lss rfl rfl) rfl rfl rfl (V_to (fun _ _ => rfl) ?_)))
      refine C_seq ?_
      refine C_cond rfl (fun hc42 => ?_) (fun hc42 => ?_)
      · have hlt38 := lt_of_dec hc42
        obtain ⟨x34, h35, h36⟩ := K40 hlt38
        refine C_skip_to (fun _ _ => rfl) ?_
        refine C_seq ?_
        obtain ⟨s44, ho43, h35⟩ := Option.bind_eq_some_iff.1 h35
        refine C_cutG (ι := (Value × (Nat → Prop))) (fun ⟨v46, A51⟩ => [(1, v_cals), (2, .int .i64 m), (9, v46), (24, v_people), (25, .int .i64 (people.length : Int)), (26, .int .i64 (k20 : Int))]) (fun ⟨v46, A51⟩ => fun w' => Hp w.heap.size A51 w' (obS (α := Int) 3 v46 s44 :: []) ∧ Tr Dw w.heap.size A32 w29 A51 w') ?_ ?_
        · have hr45 : Tr Dw w.heap.size A32 w29 A32 w29 := Tr.refl (Dw := Dw) hA
          refine C_block ?_
          refine C_seq ?_
          refine C_region ?_
          refine V_y (Y_move rfl) rfl rfl rfl ?_
          obtain ⟨x53, hx53, ho43⟩ := Option.bind_eq_some_iff.1 ho43
          refine V_indexAddr h_people hx53 Tryd.underlying22 Tryd.sizeOf37 rfl rfl rfl ?_
          intro b54 o55 h56
          obtain ⟨v57, h59, h58⟩ := El_route_Person h56
          refine V_y (Y_loadA h59 Tryd.isAgg37 Tryd.sizeOf37 rfl) rfl rfl rfl ?_
          refine V_alloc Tryd.zeroValue37 rfl ?_
          intro b60 w61 h62
          refine V_y (Y_assign rfl) rfl rfl rfl ?_
          have h67 : (v57).oneCell' = true := by obtain ⟨_, _, e, _⟩ := Sl.form h58; rw [e]; rfl
          refine V_storeNew h62 Tryd.sizeOf37 rfl rfl rfl rfl (by exact (List.forall_mem_cons.2 ⟨rfl, (List.forall_mem_cons.2 ⟨rfl, (List.forall_mem_cons.2 ⟨rfl, (List.forall_mem_cons.2 ⟨h67, (fun _ h => nomatch h)⟩)⟩)⟩)⟩)) ?_
          intro w63 h64
          have hk69 := h64.kp (Dw := Dw)
          have h68 : El (α := route_Person) A32 w63 b60 0 x53 := h64.el hA ⟨[.int .i64 x53.no], _, rfl, rfl, ⟨[.int .i64 x53.capacity], _, rfl, rfl, ⟨[.int .i64 x53.calendar], _, rfl, rfl, ⟨_, rfl, h58⟩⟩⟩⟩
          have ht70 := Kp.tr (Dw := Dw) hk69 hA hB
          replace hH := Hp.kp (Dw := Dw) hH hk69
          replace h_cals := Sl.tr (Dw := Dw) h_cals ht70
          replace h_people := Sl.tr (Dw := Dw) h_people ht70
          replace h56 := El.tr (Dw := Dw) h56 ht70
          replace h58 := Sl.tr (Dw := Dw) h58 ht70
          replace hK := Tr.trans (Dw := Dw) hK ht70
          replace hr19 := Tr.trans (Dw := Dw) hr19 ht70
          replace hr45 := Tr.trans (Dw := Dw) hr45 ht70
          replace hB := Nat.le_trans hB ht70.ex.size
          replace hA := ht70.new
          refine V_to (fun _ _ => rfl) ?_
          refine C_seq ?_
          refine C_region ?_
          refine V_y (Y_move rfl) rfl rfl rfl ?_
          have h71 := El_route_Person_2 h68
          refine V_y (Y_fieldAddr Tryd.underlying37 rfl Tryd.sizeOf3 (by decide) rfl) rfl rfl rfl ?_
          refine V_y (Y_load (El.int h71) Tryd.isAgg3 rfl) rfl rfl rfl ?_
          obtain ⟨x72, hx72, ho43⟩ := Option.bind_eq_some_iff.1 ho43
          refine V_indexAddr h_cals hx72 Tryd.underlying23 Tryd.sizeOf46 rfl rfl rfl ?_
          intro b73 o74 h75
          obtain ⟨v76, v78, v80, h82, h77, h79, h81⟩ := El_cal_Calendar h75
          refine V_y (Y_loadA h82 Tryd.isAgg46 Tryd.sizeOf46 rfl) rfl rfl rfl ?_
          refine V_y (Y_move rfl) rfl rfl rfl ?_
          obtain ⟨x83, hx83, ho43⟩ := Option.bind_eq_some_iff.1 ho43
          refine V_call Tryd.call12 rfl rfl rfl rfl (cal_Open_c (Dw := Dw) w63 hA x72 v76 h77 v78 h79 v80 h81 m hx83) ?_
          rintro _ w84 ⟨rfl, hk85⟩
          have ht86 := Kp.tr (Dw := Dw) hk85 hA hB
          replace hH := Hp.kp (Dw := Dw) hH hk85
          replace h_cals := Sl.tr (Dw := Dw) h_cals ht86
          replace h_people := Sl.tr (Dw := Dw) h_people ht86
          replace h68 := El.tr (Dw := Dw) h68 ht86
          replace h71 := El.tr (Dw := Dw) h71 ht86
          replace h75 := El.tr (Dw := Dw) h75 ht86
          replace h77 := Sl.tr (Dw := Dw) h77 ht86
          replace h79 := Sl.tr (Dw := Dw) h79 ht86
          replace h81 := Sl.tr (Dw := Dw) h81 ht86
          replace hK := Tr.trans (Dw := Dw) hK ht86
          replace hr19 := Tr.trans (Dw := Dw) hr19 ht86
          replace hr45 := Tr.trans (Dw := Dw) hr45 ht86
          replace hB := Nat.le_trans hB ht86.ex.size
          replace hA := ht86.new
          refine V_y (Y_move rfl) rfl rfl rfl ?_
          refine V_y (Y_extract rfl rfl) rfl rfl rfl ?_
          refine V_y (Y_extract rfl rfl) rfl rfl rfl ?_
          refine V_y (Y_assign rfl) rfl rfl rfl ?_
          refine V_y (Y_assign rfl) rfl rfl rfl ?_
          refine V_to (fun _ _ => rfl) ?_
          refine C_seq ?_
          refine C_region ?_
          refine V_y (Y_move rfl) rfl rfl rfl ?_
          refine V_to (fun _ _ => rfl) ?_
          obtain ⟨s88, ho87, ho43⟩ := Option.bind_eq_some_iff.1 ho43
          refine C_cutG (ι := (Value × (Nat → Prop))) (fun ⟨v90, A95⟩ => [(1, v_cals), (2, .int .i64 m), (9, v90), (24, v_people), (25, .int .i64 (people.length : Int)), (26, .int .i64 (k20 : Int))]) (fun ⟨v90, A95⟩ => fun w' => Hp w.heap.size A95 w' (obS (α := Int) 3 v90 s88 :: []) ∧ Tr Dw w.heap.size A32 w84 A95 w') ?_ ?_
          · have hr89 : Tr Dw w.heap.size A32 w84 A32 w84 := Tr.refl (Dw := Dw) hA
            refine C_cond rfl (fun hc97 => ?_) (fun hc97 => ?_)
            · rw [if_pos hc97] at ho87
              refine C_region ?_
              refine V_y (Y_move rfl) rfl rfl rfl ?_
              refine V_y (Y_move rfl) rfl rfl rfl ?_
              refine V_buildSlice (Dw := Dw) (cells := #[.int .i64 (k20 : Int)]) (l := ([(k20 : Int)] : List Int)) (len := 1) Tryd.underlying24 Tryd.sizeOf3 Tryd.zeroValue3 rfl (by generalize ((k20 : Int) : Int) = z102; kernel_rfl) (show (1 * 1 : Nat) ≠ 0 by decide) (show (1 * 1 : Nat) ≤ 2 ^ 24 by decide) hA ⟨[.int .i64 (k20 : Int)], _, rfl, rfl, rfl⟩ rfl rfl ?_
              intro v98 w99 hk101 h100
              have ht103 := Kp.tr (Dw := Dw) hk101 hA hB
              replace hH := Hp.kp (Dw := Dw) hH hk101
              replace h_cals := Sl.tr (Dw := Dw) h_cals ht103
              replace h_people := Sl.tr (Dw := Dw) h_people ht103
              replace hK := Tr.trans (Dw := Dw) hK ht103
              replace hr19 := Tr.trans (Dw := Dw) hr19 ht103
              replace hr45 := Tr.trans (Dw := Dw) hr45 ht103
              replace hr89 := Tr.trans (Dw := Dw) hr89 ht103
              replace hB := Nat.le_trans hB ht103.ex.size
              replace hA := ht103.new
              obtain ⟨x104, hx104, ho87⟩ := Option.bind_eq_some_iff.1 ho87
              refine V_appendH (Dw := Dw) (e := 3) (v := v30) (l := s28) (ti := Tryd.t3) (bytes := 8) (lim := 17592186044416) hH (i := 0) rfl h100 hx104 Tryd.underlying24 Tryd_info3 rfl rfl rfl rfl (by decide) (by decide) (by decide) hB hA rfl rfl rfl ?_
              intro v105 w106 A107 hH108 ht109
              replace h_cals := Sl.tr (Dw := Dw) h_cals ht109
              replace h_people := Sl.tr (Dw := Dw) h_people ht109
              replace h100 := Sl.tr (Dw := Dw) h100 ht109
              replace hK := Tr.trans (Dw := Dw) hK ht109
              replace hr19 := Tr.trans (Dw := Dw) hr19 ht109
              replace hr45 := Tr.trans (Dw := Dw) hr45 ht109
              replace hr89 := Tr.trans (Dw := Dw) hr89 ht109
              replace hB := Nat.le_trans hB ht109.ex.size
              replace hA := ht109.new
              replace hH : Hp w.heap.size A107 w106 (obS (α := Int) 3 v105 x104 :: []) := hH108
              refine V_y (Y_assign rfl) rfl rfl rfl ?_
              obtain rfl := Option.some.inj ho87
              refine V_end (fun a ha110 => ?_)
              exact ⟨(v105, A107), ha110.sub ⟨rfl, rfl, rfl, rfl, rfl, rfl, trivial⟩, ⟨hH, hr89⟩⟩
            · rw [if_neg (nt hc97)] at ho87
              obtain rfl := Option.some.inj ho87
              refine C_skip (fun a ha111 => ?_)
              exact ⟨(v30, A32), ha111.sub ⟨rfl, rfl, rfl, rfl, rfl, rfl, trivial⟩, ⟨hH, hr89⟩⟩
          rintro ⟨v90, A95⟩ w92 ⟨hH96, hk93⟩ a ha94
          replace h_cals := Sl.tr (Dw := Dw) h_cals hk93
          replace h_people := Sl.tr (Dw := Dw) h_people hk93
          replace hK := Tr.trans (Dw := Dw) hK hk93
          replace hr19 := Tr.trans (Dw := Dw) hr19 hk93
          replace hr45 := Tr.trans (Dw := Dw) hr45 hk93
          replace hB := Nat.le_trans hB hk93.ex.size
          replace hA := hk93.new
          replace hH : Hp w.heap.size A95 w92 (obS (α := Int) 3 v90 s88 :: []) := hH96
          obtain rfl := Option.some.inj ho43
          exact ⟨(v90, A95), ha94.sub ⟨rfl, rfl, rfl, rfl, rfl, rfl, trivial⟩, ⟨hH, hr45⟩⟩
        rintro ⟨v46, A51⟩ w48 ⟨hH52, hk49⟩ a ha50
        replace h_cals := Sl.tr (Dw := Dw) h_cals hk49
        replace h_people := Sl.tr (Dw := Dw) h_people hk49
        replace hK := Tr.trans (Dw := Dw) hK hk49
        replace hr19 := Tr.trans (Dw := Dw) hr19 hk49
        replace hB := Nat.le_trans hB hk49.ex.size
        replace hA := hk49.new
        replace hH : Hp w.heap.size A51 w48 (obS (α := Int) 3 v46 s44 :: []) := hH52
        refine C_at (n := ⟨48, [], none⟩) (fun _ _ => rfl) ?_ ha50
        refine C_region ?_
        refine V_y (Y_addI rfl rfl) rfl rfl rfl ?_
        refine V_y (Y_move rfl) rfl rfl rfl ?_
        obtain rfl := Option.some.inj h35
        refine V_end (fun a ha113 => ?_)
        exact ⟨s44, hlt38, h36, ⟨(v46, A51), ha113.sub ⟨rfl, rfl, rfl, rfl, rfl, (congrArg (fun z => some (Value.int .i64 z)) (w64_succ hlt38 hn41)), trivial⟩, ⟨hH, hr19⟩⟩⟩
      · refine C_exit (fun a ha114 => ?_)
        exact ⟨(s28, v30, A32), ha114.sub ⟨rfl, trivial⟩, ⟨(h39 (eq_of_dec hle37 hc42)).symm, hH, hr19⟩⟩
    rintro ⟨s18, v24, A26⟩ w21 ⟨rfl, hH27, hk22⟩ a ha23
    rw [Lp.andThen_fin] at hm
    replace hK := Tr.trans (Dw := Dw) hK hk22
    replace hB := Nat.le_trans hB hk22.ex.size
    replace hA := hk22.new
    replace hH : Hp w.heap.size A26 w21 (obS (α := Int) 3 v24 s18 :: []) := hH27
    refine C_at (n := ⟨48, [], none⟩) (fun _ _ => rfl) ?_ ha23
    refine C_seq ?_
    refine C_region ?_
    refine V_y (Y_move rfl) rfl rfl rfl ?_
    refine V_y (Y_assign rfl) rfl rfl rfl ?_
    refine V_y (Y_assign rfl) rfl rfl rfl ?_
    refine V_to (fun _ _ => rfl) ?_
    obtain rfl := Option.some.inj hm
    refine C_ret ?_
    try simp only [↓inBlock_ret, ↓then_ret]
    exact retQ rfl (Res.two Tryd.results4 rfl rfl) ⟨v24, rfl, (Hp.ownd hH (i := 0) rfl), hK.kp⟩

def Tryd_strings_Trim_lay_ren : Go.Shelf.Ren := ⟨fun | 119 => 81 | 120 => 79 | 137 => 80 | 151 => 75 | 152 => 78 | 160 => 63 | 197 => 74 | 217 => 84 | 224 => 82 | 225 => 83 | 227 => 68 | 228 => 73 | 231 => 66 | 232 => 67 | 233 => 69 | 234 => 70 | 235 => 71 | 236 => 72 | 260 => 77 | 266 => 85 | 271 => 76 | n => n, fun | 0 => 0 | 1 => 1 | 2 => 2 | 3 => 3 | 4 => 4 | 5 => 5 | 6 => 6 | 7 => 7 | 8 => 8 | 9 => 9 | 10 => 10 | 11 => 11 | 12 => 12 | 13 => 13 | 14 => 14 | 15 => 15 | 16 => 16 | 17 => 17 | 18 => 18 | 19 => 19 | 20 => 20 | 21 => 21 | 23 => 109 | 27 => 130 | 28 => 24 | 34 => 30 | 40 => 128 | 41 => 118 | 43 => 54 | 46 => 110 | 51 => 138 | 55 => 127 | 63 => 121 | 64 => 122 | 80 => 131 | 81 => 137 | 104 => 92 | 105 => 119 | 106 => 120 | 111 => 47 | 114 => 129 | 115 => 112 | 116 => 113 | 117 => 114 | 118 => 115 | 119 => 123 | 122 => 111 | 123 => 116 | 124 => 117 | 127 => 142 | 131 => 105 | 137 => 124 | 138 => 125 | 139 => 126 | 164 => 149 | 229 => 82 | 238 => 132 | 239 => 133 | 240 => 134 | 241 => 135 | 242 => 136 | 243 => 139 | 244 => 140 | 245 => 141 | 246 => 143 | 247 => 144 | 248 => 145 | 249 => 146 | n => n, fun | 1 => 2 | 3 => 0 | 4 => 1 | n => n⟩
theorem Tryd_strings_Trim_lay : Go.Proofs.Lays.n160 Tryd.prog Tryd_strings_Trim_lay_ren := {
  mixed := by kernel_rfl,
  f119 := Tryd.func81.trans (congrArg some (by kernel_rfl)),
  f120 := Tryd.func79.trans (congrArg some (by kernel_rfl)),
  f137 := Tryd.func80.trans (congrArg some (by kernel_rfl)),
  f151 := Tryd.func75.trans (congrArg some (by kernel_rfl)),
  f152 := Tryd.func78.trans (congrArg some (by kernel_rfl)),
  f160 := Tryd.func63.trans (congrArg some (by kernel_rfl)),
  f197 := Tryd.func74.trans (congrArg some (by kernel_rfl)),
  f217 := Tryd.func84.trans (congrArg some (by kernel_rfl)),
  f224 := Tryd.func82.trans (congrArg some (by kernel_rfl)),
  f225 := Tryd.func83.trans (congrArg some (by kernel_rfl)),
  f227 := Tryd.func68.trans (congrArg some (by kernel_rfl)),
  f228 := Tryd.func73.trans (congrArg some (by kernel_rfl)),
  f231 := Tryd.func66.trans (congrArg some (by kernel_rfl)),
  f232 := Tryd.func67.trans (congrArg some (by kernel_rfl)),
  f233 := Tryd.func69.trans (congrArg some (by kernel_rfl)),
  f234 := Tryd.func70.trans (congrArg some (by kernel_rfl)),
  f235 := Tryd.func71.trans (congrArg some (by kernel_rfl)),
  f236 := Tryd.func72.trans (congrArg some (by kernel_rfl)),
  f260 := Tryd.func77.trans (congrArg some (by kernel_rfl)),
  f266 := Tryd.func85.trans (congrArg some (by kernel_rfl)),
  f271 := Tryd.func76.trans (congrArg some (by kernel_rfl)),
  t0 := Tryd.underlying0,
  a0 := Tryd.isAgg0,
  z0 := Tryd.sizeOf0,
  v0 := Tryd.zeroValue0,
  t3 := Tryd.underlying3,
  a3 := Tryd.isAgg3,
  z3 := Tryd.sizeOf3,
  v3 := Tryd.zeroValue3,
  t4 := Tryd.underlying4,
  a4 := Tryd.isAgg4,
  z4 := Tryd.sizeOf4,
  v4 := Tryd.zeroValue4,
  t5 := Tryd.underlying5,
  a5 := Tryd.isAgg5,
  z5 := Tryd.sizeOf5,
  v5 := Tryd.zeroValue5,
  t9 := Tryd.underlying9,
  a9 := Tryd.isAgg9,
  z9 := Tryd.sizeOf9,
  v9 := Tryd.zeroValue9,
  t21 := Tryd.underlying21,
  a21 := Tryd.isAgg21,
  z21 := Tryd.sizeOf21,
  v21 := Tryd.zeroValue21,
  t46 := Tryd.underlying110,
  a46 := Tryd.isAgg110,
  z46 := Tryd.sizeOf110,
  v46 := Tryd.zeroValue110,
  t105 := Tryd.underlying119,
  a105 := Tryd.isAgg119,
  z105 := Tryd.sizeOf119,
  v105 := Tryd.zeroValue119,
  t116 := Tryd.underlying113,
  a116 := Tryd.isAgg113,
  z116 := Tryd.sizeOf113,
  t117 := Tryd.underlying114,
  a117 := Tryd.isAgg114,
  z117 := Tryd.sizeOf114,
  v117 := Tryd.zeroValue114,
  t119 := Tryd.underlying123,
  a119 := Tryd.isAgg123,
  z119 := Tryd.sizeOf123,
  t124 := Tryd.underlying117,
  a124 := Tryd.isAgg117,
  z124 := Tryd.sizeOf117,
  v124 := Tryd.zeroValue117,
  t138 := Tryd.underlying125,
  a138 := Tryd.isAgg125,
  z138 := Tryd.sizeOf125,
  v138 := Tryd.zeroValue125,
  t139 := Tryd.underlying126,
  a139 := Tryd.isAgg126,
  z139 := Tryd.sizeOf126,
  v139 := Tryd.zeroValue126,
  g3 := by kernel_rfl,
  g4 := by kernel_rfl }
theorem strings_Trim_c (w : World) {A : Nat → Prop} (hA : ∀ b, w.heap.size ≤ b → A b) (s : ByteArray) (cutset : ByteArray) {r : ByteArray} (hm : strings_Trim s cutset = some r) : Ret Tryd.prog 63 #[.string s, .string cutset] w fun v w' => v = .string r ∧ Kp False w w' := by
  unfold strings_Trim at hm
  split at hm
  case isFalse => cases hm
  rename_i h
  obtain rfl := Option.some.inj hm
  refine Calls.mono (Go.Proofs.Any.strings_Trim_laid Tryd_strings_Trim_lay (by kernel_rfl) s cutset w h.1 h.2.1 (Go.Proofs.ascii_of_all h.2.2)) ?_
  rintro _ w' ⟨rfl, hk⟩
  exact ⟨_, rfl, rfl, .of hk⟩

set_option maxRecDepth 4000 in
set_option maxHeartbeats 4000000 in
theorem portref2_IsName_c (w : World) {A : Nat → Prop} (hA : ∀ b, w.heap.size ≤ b → A b) (s : ByteArray) {r : Bool} (hm : portref2_IsName s = some r) : Ret Tryd.prog 52 #[.string s] w fun v w' => v = .bool r ∧ Kp False w w' := by
  unfold portref2_IsName at hm
  refine enter Tryd.func52 rfl Tryd.ntmps52 rfl ?_
  have hA0 := hA
  have hB := Nat.le_refl w.heap.size
  have hK : Tr False w.heap.size A w A w := Tr.refl (Dw := False) hA
  have hH : Hp w.heap.size A w [] := Hp.nil
  refine C_seq ?_
  refine C_region ?_
  refine V_y (Y_assign rfl) rfl rfl rfl ?_
  refine V_to (fun _ _ => rfl) ?_
  refine C_seq ?_
  obtain ⟨s2, ho1, hm⟩ := Option.bind_eq_some_iff.1 hm
  refine C_cutG (ι := (Nat → Prop)) (fun (A7 : (Nat → Prop)) => [(2, .bool s2)]) (fun (A7 : (Nat → Prop)) => fun w' => Hp w.heap.size A7 w' ([]) ∧ Tr False w.heap.size A w A7 w') ?_ ?_
  · have hr3 : Tr False w.heap.size A w A w := Tr.refl (Dw := False) hA
    refine C_region ?_
    refine V_y (Y_move rfl) rfl rfl rfl ?_
    refine V_y (Y_lenStr rfl Tryd.underlying9 rfl) rfl rfl rfl ?_
    refine V_y (Y_geq rfl rfl) rfl rfl rfl ?_
    refine V_y (Y_move rfl) rfl rfl rfl ?_
    rcases Bool.eq_false_or_eq_true (decide ((1 : Int) ≤ (s.size : Int))) with hc9 | hc9
    · rw [if_pos hc9] at ho1
      refine V_ge rfl rfl rfl hc9 ?_
      refine V_y (Y_move rfl) rfl rfl rfl ?_
      refine V_ge rfl rfl rfl hc9 ?_
      refine V_y (Y_lenStr rfl Tryd.underlying9 rfl) rfl rfl rfl ?_
      refine V_ge rfl rfl rfl hc9 ?_
      refine V_y (Y_leq rfl rfl) rfl rfl rfl ?_
      refine V_y (Y_pick_te rfl hc9 rfl) rfl rfl rfl ?_
      refine V_y (Y_move rfl) rfl rfl rfl ?_
      rcases Bool.eq_false_or_eq_true (decide ((s.size : Int) ≤ 20)) with hc10 | hc10
      · rw [if_pos hc10] at ho1
        refine V_ge rfl rfl rfl hc10 ?_
        refine V_y (Y_move rfl) rfl rfl rfl ?_
        refine V_ge rfl rfl rfl hc10 ?_
        obtain ⟨x11, hx11, ho1⟩ := Option.bind_eq_some_iff.1 ho1
        refine V_call Tryd.call63 rfl rfl rfl rfl (strings_Trim_c w hA s (⟨#[97, 98, 99, 100, 101, 102, 103, 104, 105, 106, 107, 108, 109, 110, 111, 112, 113, 114, 115, 116, 117, 118, 119, 120, 121, 122, 48, 49, 50, 51, 52, 53, 54, 55, 56, 57, 95]⟩ : ByteArray) hx11) ?_
        rintro _ w12 ⟨rfl, hk13⟩
        have ht14 := Kp.tr (Dw := False) hk13 hA hB
        replace hH := Hp.kp (Dw := False) hH hk13
        replace hK := Tr.trans (Dw := False) hK ht14
        replace hr3 := Tr.trans (Dw := False) hr3 ht14
        replace hB := Nat.le_trans hB ht14.ex.size
        replace hA := ht14.new
        refine V_ge rfl rfl rfl hc10 ?_
        refine V_y (Y_seql rfl rfl) rfl rfl rfl ?_
        refine V_y (Y_pick_te rfl hc10 rfl) rfl rfl rfl ?_
        refine V_y (Y_assign rfl) rfl rfl rfl ?_
        obtain rfl := Option.some.inj ho1
        refine V_end (fun a ha15 => ?_)
        exact ⟨A, ha15.sub ⟨rfl, trivial⟩, ⟨hH, hr3⟩⟩
      · rw [if_neg (nt hc10)] at ho1
        refine V_gn rfl rfl rfl hc10 rfl rfl rfl ?_
        refine V_gn rfl rfl rfl hc10 rfl rfl rfl ?_
        refine V_gn rfl rfl rfl hc10 rfl rfl rfl ?_
        refine V_y (Y_pick_fe rfl hc10 rfl) rfl rfl rfl ?_
        refine V_y (Y_assign rfl) rfl rfl rfl ?_
        obtain rfl := Option.some.inj ho1
        refine V_end (fun a ha16 => ?_)
        exact ⟨A, ha16.sub ⟨rfl, trivial⟩, ⟨hH, hr3⟩⟩
    · rw [if_neg (nt hc9)] at ho1
      refine V_gn rfl rfl rfl hc9 rfl rfl rfl ?_
      refine V_gn rfl rfl rfl hc9 rfl rfl rfl ?_
      refine V_gn rfl rfl rfl hc9 rfl rfl rfl ?_
      refine V_y (Y_pick_fe rfl hc9 rfl) rfl rfl rfl ?_
      refine V_y (Y_move rfl) rfl rfl rfl ?_
      rcases Bool.eq_false_or_eq_true (false) with hc17 | hc17
      · rw [if_pos hc17] at ho1
        refine V_ge rfl rfl rfl hc17 ?_
        refine V_y (Y_move rfl) rfl rfl rfl ?_
        refine V_ge rfl rfl rfl hc17 ?_
        obtain ⟨x18, hx18, ho1⟩ := Option.bind_eq_some_iff.1 ho1
        refine V_call Tryd.call63 rfl rfl rfl rfl (strings_Trim_c w hA s (⟨#[97, 98, 99, 100, 101, 102, 103, 104, 105, 106, 107, 108, 109, 110, 111, 112, 113, 114, 115, 116, 117, 118, 119, 120, 121, 122, 48, 49, 50, 51, 52, 53, 54, 55, 56, 57, 95]⟩ : ByteArray) hx18) ?_
        rintro _ w19 ⟨rfl, hk20⟩
        have ht21 := Kp.tr (Dw := False) hk20 hA hB
        replace hH := Hp.kp (Dw := False) hH hk20
        replace hK := Tr.trans (Dw := False) hK ht21
        replace hr3 := Tr.trans (Dw := False) hr3 ht21
        replace hB := Nat.le_trans hB ht21.ex.size
        replace hA := ht21.new
        refine V_ge rfl rfl rfl hc17 ?_
        refine V_y (Y_seql rfl rfl) rfl rfl rfl ?_
        refine V_y (Y_pick_te rfl hc17 rfl) rfl rfl rfl ?_
        refine V_y (Y_assign rfl) rfl rfl rfl ?_
        obtain rfl := Option.some.inj ho1
        refine V_end (fun a ha22 => ?_)
        exact ⟨A, ha22.sub ⟨rfl, trivial⟩, ⟨hH, hr3⟩⟩
      · rw [if_neg (nt hc17)] at ho1
        refine V_gn rfl rfl rfl hc17 rfl rfl rfl ?_
        refine V_gn rfl rfl rfl hc17 rfl rfl rfl ?_
        refine V_gn rfl rfl rfl hc17 rfl rfl rfl ?_
        refine V_y (Y_pick_fe rfl hc17 rfl) rfl rfl rfl ?_
        refine V_y (Y_assign rfl) rfl rfl rfl ?_
        obtain rfl := Option.some.inj ho1
        refine V_end (fun a ha23 => ?_)
        exact ⟨A, ha23.sub ⟨rfl, trivial⟩, ⟨hH, hr3⟩⟩
  rintro A7 w4 ⟨hH8, hk5⟩ a ha6
  replace hK := Tr.trans (Dw := False) hK hk5
  replace hB := Nat.le_trans hB hk5.ex.size
  replace hA := hk5.new
  replace hH : Hp w.heap.size A7 w4 ([]) := hH8
  refine C_at (n := ⟨16, [], none⟩) (fun _ _ => rfl) ?_ ha6
  obtain rfl := Option.some.inj hm
  refine C_ret ?_
  try simp only [↓inBlock_ret, ↓then_ret]
  exact retQ rfl (Res.one Tryd.results52 rfl) ⟨rfl, hK.kp⟩

set_option maxRecDepth 4000 in
set_option maxHeartbeats 4000000 in
theorem portref2_skillsFault_c (w : World) {A : Nat → Prop} (hA : ∀ b, w.heap.size ≤ b → A b) (l : (List route_Skill)) (v_l : Value) (h_l : Sl A w v_l l) {r : Int} (hm : portref2_skillsFault l = some r) : Ret Tryd.prog 40 #[v_l] w fun v w' => v = .int .i64 r ∧ Kp False w w' := by
  unfold portref2_skillsFault at hm
  refine enter Tryd.func40 rfl Tryd.ntmps40 rfl ?_
  have hA0 := hA
  have hB := Nat.le_refl w.heap.size
  have hK : Tr False w.heap.size A w A w := Tr.refl (Dw := False) hA
  have hH : Hp w.heap.size A w [] := Hp.nil
  refine C_seq ?_
  refine C_region ?_
  refine V_y (Y_assign rfl) rfl rfl rfl ?_
  refine V_to (fun _ _ => rfl) ?_
  refine C_seq ?_
  refine C_seq ?_
  refine C_region ?_
  refine V_y (Y_move rfl) rfl rfl rfl ?_
  refine V_y (Y_lenSl h_l rfl Tryd.underlying35 rfl) rfl rfl rfl ?_
  refine V_y (Y_gtr rfl rfl) rfl rfl rfl ?_
  refine V_to (fun _ _ => rfl) ?_
  refine C_cond rfl (fun hc3 => ?_) (fun hc3 => ?_)
  · rw [if_pos hc3] at hm
    refine C_seq ?_
    refine C_region ?_
    refine V_y (Y_assign rfl) rfl rfl rfl ?_
    refine V_to (fun _ _ => rfl) ?_
    obtain rfl := Option.some.inj hm
    refine C_ret ?_
    try simp only [↓inBlock_ret, ↓then_ret]
    exact retQ rfl (Res.one Tryd.results40 rfl) ⟨rfl, hK.kp⟩
  · rw [if_neg (nt hc3)] at hm
    refine C_skip_to (fun _ _ => rfl) ?_
    refine C_seq ?_
    refine C_seq ?_
    refine C_region ?_
    refine V_y (Y_move rfl) rfl rfl rfl ?_
    refine V_y (Y_lenSl h_l rfl Tryd.underlying35 rfl) rfl rfl rfl ?_
    refine V_y (Y_move rfl) rfl rfl rfl ?_
    refine V_to (fun _ _ => rfl) ?_
    have hn25 := Sl.le h_l
    obtain ⟨o4, ho4, hm⟩ := Option.bind_eq_some_iff.1 hm
    refine C_cutG (ι := (Unit × (Nat → Prop))) (fun ⟨s5, A12⟩ => []) (fun ⟨s5, A12⟩ => fun w' => o4 = .fin s5 ∧ Hp w.heap.size A12 w' ([]) ∧ Tr False w.heap.size A w A12 w') ?_ ?_
    · refine C_block ?_
      refine C_range ho4 (fun k7 _ a w' => ∃ i : (Nat → Prop), Has ⟨44, [], none⟩ a ([(0, v_l), (8, v_l), (9, .int .i64 (l.length : Int)), (10, .int .i64 (k7 : Int))]) ∧ Hp w.heap.size i w' ([]) ∧ Tr False w.heap.size A w i w') (fun a ha => ⟨A, ha.sub ⟨rfl, rfl, rfl, rfl, trivial⟩, ⟨hH, Tr.refl (Dw := False) hA⟩⟩) ?_
      rintro K k7 _ a w15 ⟨A16, ha65, hH17, hr6⟩ hle21 K24 h23
      refine C_of ?_ ha65
      replace h_l := Sl.tr (Dw := False) h_l hr6
      replace hK := Tr.trans (Dw := False) hK hr6
      replace hB := Nat.le_trans hB hr6.ex.size
      replace hA := hr6.new
      replace hH : Hp w.heap.size A16 w15 ([]) := hH17
      refine C_seq (C_region (V_y (Y_lss rfl rfl) rfl rfl rfl (V_to (fun _ _ => rfl) ?_)))
      refine C_seq ?_
      refine C_cond rfl (fun hc26 => ?_) (fun hc26 => ?_)
      · have hlt22 := lt_of_dec hc26
        obtain ⟨x18, h19, h20⟩ := K24 hlt22
        refine C_skip_to (fun _ _ => rfl) ?_
        refine C_seq ?_
        refine C_block ?_
        refine C_seq ?_
        refine C_region ?_
        refine V_y (Y_move rfl) rfl rfl rfl ?_
        obtain ⟨x27, hx27, h19⟩ := Option.bind_eq_some_iff.1 h19
        refine V_indexAddr h_l hx27 Tryd.underlying35 Tryd.sizeOf91 rfl rfl rfl ?_
        intro b28 o29 h30
        obtain ⟨h31, _⟩ := El_route_Skill h30
        refine V_y (Y_loadA h31 Tryd.isAgg91 Tryd.sizeOf91 rfl) rfl rfl rfl ?_
        refine V_alloc Tryd.zeroValue91 rfl ?_
        intro b32 w33 h34
        refine V_y (Y_assign rfl) rfl rfl rfl ?_
        refine V_storeNew h34 Tryd.sizeOf91 rfl rfl rfl rfl (by exact (List.forall_mem_cons.2 ⟨rfl, (List.forall_mem_cons.2 ⟨rfl, (fun _ h => nomatch h)⟩)⟩)) ?_
        intro w35 h36
        have hk38 := h36.kp (Dw := False)
        have h37 : El (α := route_Skill) A16 w35 b32 0 x27 := h36.el hA ⟨[.string x27.name], _, rfl, rfl, rfl⟩
        have ht39 := Kp.tr (Dw := False) hk38 hA hB
        replace hH := Hp.kp (Dw := False) hH hk38
        replace h_l := Sl.tr (Dw := False) h_l ht39
        replace h30 := El.tr (Dw := False) h30 ht39
        replace hK := Tr.trans (Dw := False) hK ht39
        replace hr6 := Tr.trans (Dw := False) hr6 ht39
        replace hB := Nat.le_trans hB ht39.ex.size
        replace hA := ht39.new
        refine V_to (fun _ _ => rfl) ?_
        refine C_block ?_
        refine C_seq ?_
        refine C_region ?_
        have h40 := El_route_Skill_0 h37
        refine V_y (Y_fieldAddr Tryd.underlying91 rfl Tryd.sizeOf9 (by decide) rfl) rfl rfl rfl ?_
        refine V_y (Y_load (El.str h40) Tryd.isAgg9 rfl) rfl rfl rfl ?_
        obtain ⟨x41, hx41, h19⟩ := Option.bind_eq_some_iff.1 h19
        refine V_call Tryd.call52 rfl rfl rfl rfl (portref2_IsName_c w35 hA x27.name hx41) ?_
        rintro _ w42 ⟨rfl, hk43⟩
        have ht44 := Kp.tr (Dw := False) hk43 hA hB
        replace hH := Hp.kp (Dw := False) hH hk43
        replace h_l := Sl.tr (Dw := False) h_l ht44
        replace h37 := El.tr (Dw := False) h37 ht44
        replace h40 := El.tr (Dw := False) h40 ht44
        replace hK := Tr.trans (Dw := False) hK ht44
        replace hr6 := Tr.trans (Dw := False) hr6 ht44
        replace hB := Nat.le_trans hB ht44.ex.size
        replace hA := ht44.new
        refine V_y (Y_not rfl) rfl rfl rfl ?_
        refine V_y (Y_assign rfl) rfl rfl rfl ?_
        refine V_to (fun _ _ => rfl) ?_
        refine C_cond rfl (fun hc45 => ?_) (fun hc45 => ?_)
        · rw [if_pos hc45] at h19
          refine C_seq ?_
          refine C_region ?_
          refine V_y (Y_assign rfl) rfl rfl rfl ?_
          refine V_to (fun _ _ => rfl) ?_
          obtain rfl := Option.some.inj h19
          obtain rfl := (h20 : Lp.rt _ = _)
          rw [Lp.andThen_rt] at hm
          obtain rfl := Option.some.inj hm
          refine C_ret ?_
          try simp only [↓inBlock_ret, ↓then_ret]
          exact retQ rfl (Res.one Tryd.results40 rfl) ⟨rfl, hK.kp⟩
        · rw [if_neg (nt hc45)] at h19
          refine C_seq ?_
          refine C_region_q (Dw := False) Tryd_mixed (by kernel_rfl) ?_
          refine VQ_y (fun w' hw' => Y_move rfl) rfl rfl rfl ?_
          refine VQ_y (fun w' hw' => Y_gtr rfl rfl) rfl rfl rfl ?_
          refine VQ_y (fun w' hw' => Y_move rfl) rfl rfl rfl ?_
          obtain ⟨s47, hs47, h19⟩ := Option.bind_eq_some_iff.1 h19
          refine VQ_cut 10 (fun _ : Unit => [(0, v_l), (4, .pointer (some ⟨b32, 0, none⟩)), (8, v_l), (9, .int .i64 (l.length : Int)), (10, .int .i64 (k7 : Int)), (33, .bool s47)]) (fun _ => True) ?_ ?_
          · simp only [List.take, List.drop]
            rcases Bool.eq_false_or_eq_true (decide ((0 : Int) < (k7 : Int))) with hc46 | hc46
            · rw [if_pos hc46] at hs47
              refine VQ_ge rfl rfl rfl hc46 ?_
              have h48 := El_route_Skill_0 h37
              refine VQ_y (fun w' hw' => Y_fieldAddr Tryd.underlying91 rfl Tryd.sizeOf9 (by decide) rfl) rfl rfl rfl ?_
              refine VQ_ge rfl rfl rfl hc46 ?_
              refine VQ_y (fun w' hw' => Y_load (El.str (El.kp (Dw := False) h48 hw')) Tryd.isAgg9 rfl) rfl rfl rfl ?_
              refine VQ_ge rfl rfl rfl hc46 ?_
              refine VQ_y (fun w' hw' => Y_move rfl) rfl rfl rfl ?_
              refine VQ_ge rfl rfl rfl hc46 ?_
              refine VQ_y (fun w' hw' => Y_move rfl) rfl rfl rfl ?_
              refine VQ_ge rfl rfl rfl hc46 ?_
              refine VQ_y (fun w' hw' => Y_subI rfl rfl) rfl rfl rfl ?_
              refine VQ_ge rfl rfl rfl hc46 ?_
              obtain ⟨x49, hx49, hs47⟩ := Option.bind_eq_some_iff.1 hs47
              refine VQ_indexAddr h_l hx49 Tryd.underlying35 Tryd.sizeOf91 rfl rfl rfl ?_
              intro b50 o51 h52
              refine VQ_ge rfl rfl rfl hc46 ?_
              have h53 := El_route_Skill_0 h52
              refine VQ_y (fun w' hw' => Y_fieldAddr Tryd.underlying91 rfl Tryd.sizeOf9 (by decide) rfl) rfl rfl rfl ?_
              refine VQ_ge rfl rfl rfl hc46 ?_
              refine VQ_y (fun w' hw' => Y_load (El.str (El.kp (Dw := False) h53 hw')) Tryd.isAgg9 rfl) rfl rfl rfl ?_
              refine VQ_ge rfl rfl rfl hc46 ?_
              refine VQ_y (fun w' hw' => Y_sleq rfl rfl) rfl rfl rfl ?_
              refine VQ_y (fun _ _ => Y_pick_te rfl hc46 rfl) rfl rfl rfl ?_
              obtain rfl := Option.some.inj hs47
              exact VQ_end fun a ha => ⟨(), ha.sub ⟨rfl, rfl, rfl, rfl, rfl, rfl, trivial⟩, trivial⟩
            · rw [if_neg (nt hc46)] at hs47
              refine VQ_gn rfl rfl rfl hc46 rfl rfl rfl ?_
              refine VQ_gn rfl rfl rfl hc46 rfl rfl rfl ?_
              refine VQ_gn rfl rfl rfl hc46 rfl rfl rfl ?_
              refine VQ_gn rfl rfl rfl hc46 rfl rfl rfl ?_
              refine VQ_gn rfl rfl rfl hc46 rfl rfl rfl ?_
              refine VQ_gn rfl rfl rfl hc46 rfl rfl rfl ?_
              refine VQ_gn rfl rfl rfl hc46 rfl rfl rfl ?_
              refine VQ_gn rfl rfl rfl hc46 rfl rfl rfl ?_
              refine VQ_gn rfl rfl rfl hc46 rfl rfl rfl ?_
              refine VQ_y (fun _ _ => Y_pick_fe rfl hc46 rfl) rfl rfl rfl ?_
              obtain rfl := Option.some.inj hs47
              exact VQ_end fun a ha => ⟨(), ha.sub ⟨rfl, rfl, rfl, rfl, rfl, rfl, trivial⟩, trivial⟩
          simp only [List.take, List.drop]
          rintro _ _
          refine VQ_y (fun w' hw' => Y_assign rfl) rfl rfl rfl ?_
          refine VQ_to (fun _ _ => rfl) (fun w54 hk55 => ?_)
          have ht56 := Kp.tr (Dw := False) hk55 hA hB
          replace hH := Hp.kp (Dw := False) hH hk55
          replace h_l := Sl.tr (Dw := False) h_l ht56
          replace h37 := El.tr (Dw := False) h37 ht56
          replace hK := Tr.trans (Dw := False) hK ht56
          replace hr6 := Tr.trans (Dw := False) hr6 ht56
          replace hB := Nat.le_trans hB ht56.ex.size
          replace hA := ht56.new
          refine C_cond rfl (fun hc57 => ?_) (fun hc57 => ?_)
          · rw [if_pos hc57] at h19
            refine C_seq ?_
            refine C_region ?_
            refine V_y (Y_assign rfl) rfl rfl rfl ?_
            refine V_to (fun _ _ => rfl) ?_
            obtain rfl := Option.some.inj h19
            obtain rfl := (h20 : Lp.rt _ = _)
            rw [Lp.andThen_rt] at hm
            obtain rfl := Option.some.inj hm
            refine C_ret ?_
            try simp only [↓inBlock_ret, ↓then_ret]
            exact retQ rfl (Res.one Tryd.results40 rfl) ⟨rfl, hK.kp⟩
          · rw [if_neg (nt hc57)] at h19
            refine C_seq ?_
            refine C_region ?_
            have h58 := El_route_Skill_1 h37
            refine V_y (Y_fieldAddr Tryd.underlying91 rfl Tryd.sizeOf3 (by decide) rfl) rfl rfl rfl ?_
            refine V_y (Y_load (El.int h58) Tryd.isAgg3 rfl) rfl rfl rfl ?_
            refine V_y (Y_lss rfl rfl) rfl rfl rfl ?_
            refine V_y (Y_move rfl) rfl rfl rfl ?_
            refine V_cut 4 (fun _ : Unit => [(0, v_l), (8, v_l), (9, .int .i64 (l.length : Int)), (10, .int .i64 (k7 : Int)), (42, .bool ((decide (x27.rank < 1)) || (decide ((9 : Int) < x27.rank))))]) (fun _ w' => w54 = w') ?_ ?_
            · simp only [List.take, List.drop]
              rcases Bool.eq_false_or_eq_true (decide (x27.rank < 1)) with hc59 | hc59
              · refine V_gn rfl rfl rfl hc59 rfl rfl rfl ?_
                refine V_gn rfl rfl rfl hc59 rfl rfl rfl ?_
                refine V_gn rfl rfl rfl hc59 rfl rfl rfl ?_
                refine V_y (Y_pick_te rfl hc59 rfl) rfl rfl rfl ?_
                exact V_end fun a ha => ⟨(), ha.sub ⟨rfl, rfl, rfl, rfl, (by rw [hc59]; rfl), trivial⟩, rfl⟩
              · refine V_ge rfl rfl rfl hc59 ?_
                have h61 := El_route_Skill_1 h37
                refine V_y (Y_fieldAddr Tryd.underlying91 rfl Tryd.sizeOf3 (by decide) rfl) rfl rfl rfl ?_
                refine V_ge rfl rfl rfl hc59 ?_
                refine V_y (Y_load (El.int h61) Tryd.isAgg3 rfl) rfl rfl rfl ?_
                refine V_ge rfl rfl rfl hc59 ?_
                refine V_y (Y_gtr rfl rfl) rfl rfl rfl ?_
                refine V_y (Y_pick_fe rfl hc59 rfl) rfl rfl rfl ?_
                exact V_end fun a ha => ⟨(), ha.sub ⟨rfl, rfl, rfl, rfl, (by rw [hc59]; rfl), trivial⟩, rfl⟩
            simp only [List.take, List.drop]
            rintro _ _ rfl
            refine V_y (Y_assign rfl) rfl rfl rfl ?_
            refine V_to (fun _ _ => rfl) ?_
            refine C_cond rfl (fun hc62 => ?_) (fun hc62 => ?_)
            · rw [if_pos hc62] at h19
              refine C_seq ?_
              refine C_region ?_
              refine V_y (Y_assign rfl) rfl rfl rfl ?_
              refine V_to (fun _ _ => rfl) ?_
              obtain rfl := Option.some.inj h19
              obtain rfl := (h20 : Lp.rt _ = _)
              rw [Lp.andThen_rt] at hm
              obtain rfl := Option.some.inj hm
              refine C_ret ?_
              try simp only [↓inBlock_ret, ↓then_ret]
              exact retQ rfl (Res.one Tryd.results40 rfl) ⟨rfl, hK.kp⟩
            · rw [if_neg (nt hc62)] at h19
              refine C_skip_to (fun _ _ => rfl) ?_
              refine C_region ?_
              refine V_y (Y_addI rfl rfl) rfl rfl rfl ?_
              refine V_y (Y_move rfl) rfl rfl rfl ?_
              obtain rfl := Option.some.inj h19
              refine V_end (fun a ha63 => ?_)
              exact ⟨(), hlt22, h20, ⟨A16, ha63.sub ⟨rfl, rfl, rfl, (congrArg (fun z => some (Value.int .i64 z)) (w64_succ hlt22 hn25)), trivial⟩, ⟨hH, hr6⟩⟩⟩
      · refine C_exit (fun a ha64 => ?_)
        exact ⟨((), A16), ha64.sub trivial, ⟨(h23 (eq_of_dec hle21 hc26)).symm, hH, hr6⟩⟩
    rintro ⟨s5, A12⟩ w9 ⟨rfl, hH13, hk10⟩ a ha11
    rw [Lp.andThen_fin] at hm
    replace hK := Tr.trans (Dw := False) hK hk10
    replace hB := Nat.le_trans hB hk10.ex.size
    replace hA := hk10.new
    replace hH : Hp w.heap.size A12 w9 ([]) := hH13
    refine C_at (n := ⟨44, [], none⟩) (fun _ _ => rfl) ?_ ha11
    refine C_seq ?_
    refine C_region ?_
    refine V_y (Y_assign rfl) rfl rfl rfl ?_
    refine V_to (fun _ _ => rfl) ?_
    obtain rfl := Option.some.inj hm
    refine C_ret ?_
    try simp only [↓inBlock_ret, ↓then_ret]
    exact retQ rfl (Res.one Tryd.results40 rfl) ⟨rfl, hK.kp⟩

set_option maxRecDepth 4000 in
set_option maxHeartbeats 4000000 in
theorem portref2_PeopleFault_c (w : World) {A : Nat → Prop} (hA : ∀ b, w.heap.size ≤ b → A b) (l : (List route_Person)) (v_l : Value) (h_l : Sl A w v_l l) {r : Int} (hm : portref2_PeopleFault l = some r) : Ret Tryd.prog 26 #[v_l] w fun v w' => v = .int .i64 r ∧ Kp False w w' := by
  unfold portref2_PeopleFault at hm
  refine enter Tryd.func26 rfl Tryd.ntmps26 rfl ?_
  have hA0 := hA
  have hB := Nat.le_refl w.heap.size
  have hK : Tr False w.heap.size A w A w := Tr.refl (Dw := False) hA
  have hH : Hp w.heap.size A w [] := Hp.nil
  refine C_seq ?_
  refine C_region ?_
  refine V_y (Y_assign rfl) rfl rfl rfl ?_
  refine V_to (fun _ _ => rfl) ?_
  refine C_seq ?_
  refine C_seq ?_
  refine C_region ?_
  refine V_y (Y_move rfl) rfl rfl rfl ?_
  refine V_y (Y_lenSl h_l rfl Tryd.underlying22 rfl) rfl rfl rfl ?_
  refine V_y (Y_gtr rfl rfl) rfl rfl rfl ?_
  refine V_to (fun _ _ => rfl) ?_
  refine C_cond rfl (fun hc3 => ?_) (fun hc3 => ?_)
  · rw [if_pos hc3] at hm
    refine C_seq ?_
    refine C_region ?_
    refine V_y (Y_assign rfl) rfl rfl rfl ?_
    refine V_to (fun _ _ => rfl) ?_
    obtain rfl := Option.some.inj hm
    refine C_ret ?_
    try simp only [↓inBlock_ret, ↓then_ret]
    exact retQ rfl (Res.one Tryd.results26 rfl) ⟨rfl, hK.kp⟩
  · rw [if_neg (nt hc3)] at hm
    refine C_skip_to (fun _ _ => rfl) ?_
    refine C_seq ?_
    refine C_seq ?_
    refine C_region ?_
    refine V_y (Y_move rfl) rfl rfl rfl ?_
    refine V_y (Y_lenSl h_l rfl Tryd.underlying22 rfl) rfl rfl rfl ?_
    refine V_y (Y_move rfl) rfl rfl rfl ?_
    refine V_to (fun _ _ => rfl) ?_
    have hn25 := Sl.le h_l
    obtain ⟨o4, ho4, hm⟩ := Option.bind_eq_some_iff.1 hm
    refine C_cutG (ι := (Unit × (Nat → Prop))) (fun ⟨s5, A12⟩ => []) (fun ⟨s5, A12⟩ => fun w' => o4 = .fin s5 ∧ Hp w.heap.size A12 w' ([]) ∧ Tr False w.heap.size A w A12 w') ?_ ?_
    · refine C_block ?_
      refine C_range ho4 (fun k7 _ a w' => ∃ i : (Nat → Prop), Has ⟨65, [], none⟩ a ([(0, v_l), (9, v_l), (10, .int .i64 (l.length : Int)), (11, .int .i64 (k7 : Int))]) ∧ Hp w.heap.size i w' ([]) ∧ Tr False w.heap.size A w i w') (fun a ha => ⟨A, ha.sub ⟨rfl, rfl, rfl, rfl, trivial⟩, ⟨hH, Tr.refl (Dw := False) hA⟩⟩) ?_
      rintro K k7 _ a w15 ⟨A16, ha84, hH17, hr6⟩ hle21 K24 h23
      refine C_of ?_ ha84
      replace h_l := Sl.tr (Dw := False) h_l hr6
      replace hK := Tr.trans (Dw := False) hK hr6
      replace hB := Nat.le_trans hB hr6.ex.size
      replace hA := hr6.new
      replace hH : Hp w.heap.size A16 w15 ([]) := hH17
      refine C_seq (C_region (V_y (Y_lss rfl rfl) rfl rfl rfl (V_to (fun _ _ => rfl) ?_)))
      refine C_seq ?_
      refine C_cond rfl (fun hc26 => ?_) (fun hc26 => ?_)
      · have hlt22 := lt_of_dec hc26
        obtain ⟨x18, h19, h20⟩ := K24 hlt22
        refine C_skip_to (fun _ _ => rfl) ?_
        refine C_seq ?_
        refine C_block ?_
        refine C_seq ?_
        refine C_region ?_
        refine V_y (Y_move rfl) rfl rfl rfl ?_
        obtain ⟨x27, hx27, h19⟩ := Option.bind_eq_some_iff.1 h19
        refine V_indexAddr h_l hx27 Tryd.underlying22 Tryd.sizeOf37 rfl rfl rfl ?_
        intro b28 o29 h30
        obtain ⟨v31, h33, h32⟩ := El_route_Person h30
        refine V_y (Y_loadA h33 Tryd.isAgg37 Tryd.sizeOf37 rfl) rfl rfl rfl ?_
        refine V_alloc Tryd.zeroValue37 rfl ?_
        intro b34 w35 h36
        refine V_y (Y_assign rfl) rfl rfl rfl ?_
        have h41 : (v31).oneCell' = true := by obtain ⟨_, _, e, _⟩ := Sl.form h32; rw [e]; rfl
        refine V_storeNew h36 Tryd.sizeOf37 rfl rfl rfl rfl (by exact (List.forall_mem_cons.2 ⟨rfl, (List.forall_mem_cons.2 ⟨rfl, (List.forall_mem_cons.2 ⟨rfl, (List.forall_mem_cons.2 ⟨h41, (fun _ h => nomatch h)⟩)⟩)⟩)⟩)) ?_
        intro w37 h38
        have hk43 := h38.kp (Dw := False)
        have h42 : El (α := route_Person) A16 w37 b34 0 x27 := h38.el hA ⟨[.int .i64 x27.no], _, rfl, rfl, ⟨[.int .i64 x27.capacity], _, rfl, rfl, ⟨[.int .i64 x27.calendar], _, rfl, rfl, ⟨_, rfl, h32⟩⟩⟩⟩
        have ht44 := Kp.tr (Dw := False) hk43 hA hB
        replace hH := Hp.kp (Dw := False) hH hk43
        replace h_l := Sl.tr (Dw := False) h_l ht44
        replace h30 := El.tr (Dw := False) h30 ht44
        replace h32 := Sl.tr (Dw := False) h32 ht44
        replace hK := Tr.trans (Dw := False) hK ht44
        replace hr6 := Tr.trans (Dw := False) hr6 ht44
        replace hB := Nat.le_trans hB ht44.ex.size
        replace hA := ht44.new
        refine V_to (fun _ _ => rfl) ?_
        refine C_seq ?_
        refine C_block ?_
        refine C_seq ?_
        refine C_region ?_
        have h45 := El_route_Person_0 h42
        refine V_y (Y_fieldAddr Tryd.underlying37 rfl Tryd.sizeOf3 (by decide) rfl) rfl rfl rfl ?_
        refine V_y (Y_load (El.int h45) Tryd.isAgg3 rfl) rfl rfl rfl ?_
        refine V_y (Y_lss rfl rfl) rfl rfl rfl ?_
        refine V_y (Y_move rfl) rfl rfl rfl ?_
        refine V_cut 4 (fun _ : Unit => [(0, v_l), (3, .int .i64 (k7 : Int)), (4, .pointer (some ⟨b34, 0, none⟩)), (9, v_l), (10, .int .i64 (l.length : Int)), (11, .int .i64 (k7 : Int)), (24, .bool ((decide (x27.no < 1)) || (decide ((40 : Int) < x27.no))))]) (fun _ w' => w37 = w') ?_ ?_
        · simp only [List.take, List.drop]
          rcases Bool.eq_false_or_eq_true (decide (x27.no < 1)) with hc46 | hc46
          · refine V_gn rfl rfl rfl hc46 rfl rfl rfl ?_
            refine V_gn rfl rfl rfl hc46 rfl rfl rfl ?_
            refine V_gn rfl rfl rfl hc46 rfl rfl rfl ?_
            refine V_y (Y_pick_te rfl hc46 rfl) rfl rfl rfl ?_
            exact V_end fun a ha => ⟨(), ha.sub ⟨rfl, rfl, rfl, rfl, rfl, rfl, (by rw [hc46]; rfl), trivial⟩, rfl⟩
          · refine V_ge rfl rfl rfl hc46 ?_
            have h48 := El_route_Person_0 h42
            refine V_y (Y_fieldAddr Tryd.underlying37 rfl Tryd.sizeOf3 (by decide) rfl) rfl rfl rfl ?_
            refine V_ge rfl rfl rfl hc46 ?_
            refine V_y (Y_load (El.int h48) Tryd.isAgg3 rfl) rfl rfl rfl ?_
            refine V_ge rfl rfl rfl hc46 ?_
            refine V_y (Y_gtr rfl rfl) rfl rfl rfl ?_
            refine V_y (Y_pick_fe rfl hc46 rfl) rfl rfl rfl ?_
            exact V_end fun a ha => ⟨(), ha.sub ⟨rfl, rfl, rfl, rfl, rfl, rfl, (by rw [hc46]; rfl), trivial⟩, rfl⟩
        simp only [List.take, List.drop]
        rintro _ _ rfl
        refine V_y (Y_assign rfl) rfl rfl rfl ?_
        refine V_to (fun _ _ => rfl) ?_
        refine C_cond rfl (fun hc49 => ?_) (fun hc49 => ?_)
        · rw [if_pos hc49] at h19
          refine C_seq ?_
          refine C_region ?_
          refine V_y (Y_assign rfl) rfl rfl rfl ?_
          refine V_to (fun _ _ => rfl) ?_
          obtain rfl := Option.some.inj h19
          obtain rfl := (h20 : Lp.rt _ = _)
          rw [Lp.andThen_rt] at hm
          obtain rfl := Option.some.inj hm
          refine C_ret ?_
          try simp only [↓inBlock_ret, ↓then_ret]
          exact retQ rfl (Res.one Tryd.results26 rfl) ⟨rfl, hK.kp⟩
        · rw [if_neg (nt hc49)] at h19
          refine C_seq ?_
          refine C_region_q (Dw := False) Tryd_mixed (by kernel_rfl) ?_
          refine VQ_y (fun w' hw' => Y_move rfl) rfl rfl rfl ?_
          refine VQ_y (fun w' hw' => Y_gtr rfl rfl) rfl rfl rfl ?_
          refine VQ_y (fun w' hw' => Y_move rfl) rfl rfl rfl ?_
          obtain ⟨s51, hs51, h19⟩ := Option.bind_eq_some_iff.1 h19
          refine VQ_cut 10 (fun _ : Unit => [(0, v_l), (4, .pointer (some ⟨b34, 0, none⟩)), (9, v_l), (10, .int .i64 (l.length : Int)), (11, .int .i64 (k7 : Int)), (38, .bool s51)]) (fun _ => True) ?_ ?_
          · simp only [List.take, List.drop]
            rcases Bool.eq_false_or_eq_true (decide ((0 : Int) < (k7 : Int))) with hc50 | hc50
            · rw [if_pos hc50] at hs51
              refine VQ_ge rfl rfl rfl hc50 ?_
              have h52 := El_route_Person_0 h42
              refine VQ_y (fun w' hw' => Y_fieldAddr Tryd.underlying37 rfl Tryd.sizeOf3 (by decide) rfl) rfl rfl rfl ?_
              refine VQ_ge rfl rfl rfl hc50 ?_
              refine VQ_y (fun w' hw' => Y_load (El.int (El.kp (Dw := False) h52 hw')) Tryd.isAgg3 rfl) rfl rfl rfl ?_
              refine VQ_ge rfl rfl rfl hc50 ?_
              refine VQ_y (fun w' hw' => Y_move rfl) rfl rfl rfl ?_
              refine VQ_ge rfl rfl rfl hc50 ?_
              refine VQ_y (fun w' hw' => Y_move rfl) rfl rfl rfl ?_
              refine VQ_ge rfl rfl rfl hc50 ?_
              refine VQ_y (fun w' hw' => Y_subI rfl rfl) rfl rfl rfl ?_
              refine VQ_ge rfl rfl rfl hc50 ?_
              obtain ⟨x53, hx53, hs51⟩ := Option.bind_eq_some_iff.1 hs51
              refine VQ_indexAddr h_l hx53 Tryd.underlying22 Tryd.sizeOf37 rfl rfl rfl ?_
              intro b54 o55 h56
              refine VQ_ge rfl rfl rfl hc50 ?_
              have h57 := El_route_Person_0 h56
              refine VQ_y (fun w' hw' => Y_fieldAddr Tryd.underlying37 rfl Tryd.sizeOf3 (by decide) rfl) rfl rfl rfl ?_
              refine VQ_ge rfl rfl rfl hc50 ?_
              refine VQ_y (fun w' hw' => Y_load (El.int (El.kp (Dw := False) h57 hw')) Tryd.isAgg3 rfl) rfl rfl rfl ?_
              refine VQ_ge rfl rfl rfl hc50 ?_
              refine VQ_y (fun w' hw' => Y_leq rfl rfl) rfl rfl rfl ?_
              refine VQ_y (fun _ _ => Y_pick_te rfl hc50 rfl) rfl rfl rfl ?_
              obtain rfl := Option.some.inj hs51
              exact VQ_end fun a ha => ⟨(), ha.sub ⟨rfl, rfl, rfl, rfl, rfl, rfl, trivial⟩, trivial⟩
            · rw [if_neg (nt hc50)] at hs51
              refine VQ_gn rfl rfl rfl hc50 rfl rfl rfl ?_
              refine VQ_gn rfl rfl rfl hc50 rfl rfl rfl ?_
              refine VQ_gn rfl rfl rfl hc50 rfl rfl rfl ?_
              refine VQ_gn rfl rfl rfl hc50 rfl rfl rfl ?_
              refine VQ_gn rfl rfl rfl hc50 rfl rfl rfl ?_
              refine VQ_gn rfl rfl rfl hc50 rfl rfl rfl ?_
              refine VQ_gn rfl rfl rfl hc50 rfl rfl rfl ?_
              refine VQ_gn rfl rfl rfl hc50 rfl rfl rfl ?_
              refine VQ_gn rfl rfl rfl hc50 rfl rfl rfl ?_
              refine VQ_y (fun _ _ => Y_pick_fe rfl hc50 rfl) rfl rfl rfl ?_
              obtain rfl := Option.some.inj hs51
              exact VQ_end fun a ha => ⟨(), ha.sub ⟨rfl, rfl, rfl, rfl, rfl, rfl, trivial⟩, trivial⟩
          simp only [List.take, List.drop]
          rintro _ _
          refine VQ_y (fun w' hw' => Y_assign rfl) rfl rfl rfl ?_
          refine VQ_to (fun _ _ => rfl) (fun w58 hk59 => ?_)
          have ht60 := Kp.tr (Dw := False) hk59 hA hB
          replace hH := Hp.kp (Dw := False) hH hk59
          replace h_l := Sl.tr (Dw := False) h_l ht60
          replace h42 := El.tr (Dw := False) h42 ht60
          replace hK := Tr.trans (Dw := False) hK ht60
          replace hr6 := Tr.trans (Dw := False) hr6 ht60
          replace hB := Nat.le_trans hB ht60.ex.size
          replace hA := ht60.new
          refine C_cond rfl (fun hc61 => ?_) (fun hc61 => ?_)
          · rw [if_pos hc61] at h19
            refine C_seq ?_
            refine C_region ?_
            refine V_y (Y_assign rfl) rfl rfl rfl ?_
            refine V_to (fun _ _ => rfl) ?_
            obtain rfl := Option.some.inj h19
            obtain rfl := (h20 : Lp.rt _ = _)
            rw [Lp.andThen_rt] at hm
            obtain rfl := Option.some.inj hm
            refine C_ret ?_
            try simp only [↓inBlock_ret, ↓then_ret]
            exact retQ rfl (Res.one Tryd.results26 rfl) ⟨rfl, hK.kp⟩
          · rw [if_neg (nt hc61)] at h19
            refine C_seq ?_
            refine C_region ?_
            have h62 := El_route_Person_1 h42
            refine V_y (Y_fieldAddr Tryd.underlying37 rfl Tryd.sizeOf3 (by decide) rfl) rfl rfl rfl ?_
            refine V_y (Y_load (El.int h62) Tryd.isAgg3 rfl) rfl rfl rfl ?_
            refine V_y (Y_lss rfl rfl) rfl rfl rfl ?_
            refine V_y (Y_move rfl) rfl rfl rfl ?_
            refine V_cut 4 (fun _ : Unit => [(0, v_l), (4, .pointer (some ⟨b34, 0, none⟩)), (9, v_l), (10, .int .i64 (l.length : Int)), (11, .int .i64 (k7 : Int)), (47, .bool ((decide (x27.capacity < 0)) || (decide ((100 : Int) < x27.capacity))))]) (fun _ w' => w58 = w') ?_ ?_
            · simp only [List.take, List.drop]
              rcases Bool.eq_false_or_eq_true (decide (x27.capacity < 0)) with hc63 | hc63
              · refine V_gn rfl rfl rfl hc63 rfl rfl rfl ?_
                refine V_gn rfl rfl rfl hc63 rfl rfl rfl ?_
                refine V_gn rfl rfl rfl hc63 rfl rfl rfl ?_
                refine V_y (Y_pick_te rfl hc63 rfl) rfl rfl rfl ?_
                exact V_end fun a ha => ⟨(), ha.sub ⟨rfl, rfl, rfl, rfl, rfl, (by rw [hc63]; rfl), trivial⟩, rfl⟩
              · refine V_ge rfl rfl rfl hc63 ?_
                have h65 := El_route_Person_1 h42
                refine V_y (Y_fieldAddr Tryd.underlying37 rfl Tryd.sizeOf3 (by decide) rfl) rfl rfl rfl ?_
                refine V_ge rfl rfl rfl hc63 ?_
                refine V_y (Y_load (El.int h65) Tryd.isAgg3 rfl) rfl rfl rfl ?_
                refine V_ge rfl rfl rfl hc63 ?_
                refine V_y (Y_gtr rfl rfl) rfl rfl rfl ?_
                refine V_y (Y_pick_fe rfl hc63 rfl) rfl rfl rfl ?_
                exact V_end fun a ha => ⟨(), ha.sub ⟨rfl, rfl, rfl, rfl, rfl, (by rw [hc63]; rfl), trivial⟩, rfl⟩
            simp only [List.take, List.drop]
            rintro _ _ rfl
            refine V_y (Y_move rfl) rfl rfl rfl ?_
            refine V_cut 4 (fun _ : Unit => [(0, v_l), (4, .pointer (some ⟨b34, 0, none⟩)), (9, v_l), (10, .int .i64 (l.length : Int)), (11, .int .i64 (k7 : Int)), (52, .bool (((decide (x27.capacity < 0)) || (decide ((100 : Int) < x27.capacity))) || (decide (x27.calendar < 0))))]) (fun _ w' => w58 = w') ?_ ?_
            · simp only [List.take, List.drop]
              rcases Bool.eq_false_or_eq_true (((decide (x27.capacity < 0)) || (decide ((100 : Int) < x27.capacity)))) with hc66 | hc66
              · refine V_gn rfl rfl rfl hc66 rfl rfl rfl ?_
                refine V_gn rfl rfl rfl hc66 rfl rfl rfl ?_
                refine V_gn rfl rfl rfl hc66 rfl rfl rfl ?_
                refine V_y (Y_pick_te rfl hc66 rfl) rfl rfl rfl ?_
                exact V_end fun a ha => ⟨(), ha.sub ⟨rfl, rfl, rfl, rfl, rfl, (by rw [hc66]; rfl), trivial⟩, rfl⟩
              · refine V_ge rfl rfl rfl hc66 ?_
                have h68 := El_route_Person_2 h42
                refine V_y (Y_fieldAddr Tryd.underlying37 rfl Tryd.sizeOf3 (by decide) rfl) rfl rfl rfl ?_
                refine V_ge rfl rfl rfl hc66 ?_
                refine V_y (Y_load (El.int h68) Tryd.isAgg3 rfl) rfl rfl rfl ?_
                refine V_ge rfl rfl rfl hc66 ?_
                refine V_y (Y_lss rfl rfl) rfl rfl rfl ?_
                refine V_y (Y_pick_fe rfl hc66 rfl) rfl rfl rfl ?_
                exact V_end fun a ha => ⟨(), ha.sub ⟨rfl, rfl, rfl, rfl, rfl, (by rw [hc66]; rfl), trivial⟩, rfl⟩
            simp only [List.take, List.drop]
            rintro _ _ rfl
            refine V_y (Y_move rfl) rfl rfl rfl ?_
            refine V_cut 4 (fun _ : Unit => [(0, v_l), (4, .pointer (some ⟨b34, 0, none⟩)), (9, v_l), (10, .int .i64 (l.length : Int)), (11, .int .i64 (k7 : Int)), (57, .bool ((((decide (x27.capacity < 0)) || (decide ((100 : Int) < x27.capacity))) || (decide (x27.calendar < 0))) || (decide ((20 : Int) ≤ x27.calendar))))]) (fun _ w' => w58 = w') ?_ ?_
            · simp only [List.take, List.drop]
              rcases Bool.eq_false_or_eq_true ((((decide (x27.capacity < 0)) || (decide ((100 : Int) < x27.capacity))) || (decide (x27.calendar < 0)))) with hc69 | hc69
              · refine V_gn rfl rfl rfl hc69 rfl rfl rfl ?_
                refine V_gn rfl rfl rfl hc69 rfl rfl rfl ?_
                refine V_gn rfl rfl rfl hc69 rfl rfl rfl ?_
                refine V_y (Y_pick_te rfl hc69 rfl) rfl rfl rfl ?_
                exact V_end fun a ha => ⟨(), ha.sub ⟨rfl, rfl, rfl, rfl, rfl, (by rw [hc69]; rfl), trivial⟩, rfl⟩
              · refine V_ge rfl rfl rfl hc69 ?_
                have h71 := El_route_Person_2 h42
                refine V_y (Y_fieldAddr Tryd.underlying37 rfl Tryd.sizeOf3 (by decide) rfl) rfl rfl rfl ?_
                refine V_ge rfl rfl rfl hc69 ?_
                refine V_y (Y_load (El.int h71) Tryd.isAgg3 rfl) rfl rfl rfl ?_
                refine V_ge rfl rfl rfl hc69 ?_
                refine V_y (Y_geq rfl rfl) rfl rfl rfl ?_
                refine V_y (Y_pick_fe rfl hc69 rfl) rfl rfl rfl ?_
                exact V_end fun a ha => ⟨(), ha.sub ⟨rfl, rfl, rfl, rfl, rfl, (by rw [hc69]; rfl), trivial⟩, rfl⟩
            simp only [List.take, List.drop]
            rintro _ _ rfl
            refine V_y (Y_assign rfl) rfl rfl rfl ?_
            refine V_to (fun _ _ => rfl) ?_
            refine C_cond rfl (fun hc72 => ?_) (fun hc72 => ?_)
            · rw [if_pos hc72] at h19
              refine C_seq ?_
              refine C_region ?_
              refine V_y (Y_assign rfl) rfl rfl rfl ?_
              refine V_to (fun _ _ => rfl) ?_
              obtain rfl := Option.some.inj h19
              obtain rfl := (h20 : Lp.rt _ = _)
              rw [Lp.andThen_rt] at hm
              obtain rfl := Option.some.inj hm
              refine C_ret ?_
              try simp only [↓inBlock_ret, ↓then_ret]
              exact retQ rfl (Res.one Tryd.results26 rfl) ⟨rfl, hK.kp⟩
            · rw [if_neg (nt hc72)] at h19
              refine C_skip_to (fun _ _ => rfl) ?_
              refine C_seq ?_
              refine C_region ?_
              have h73 := El_route_Person_3 h42
              refine V_y (Y_fieldAddr Tryd.underlying37 rfl Tryd.sizeOf35 (by decide) rfl) rfl rfl rfl ?_
              obtain ⟨v74, h75, h76⟩ := El.list h73
              refine V_y (Y_load h75 Tryd.isAgg35 rfl) rfl rfl rfl ?_
              obtain ⟨x77, hx77, h19⟩ := Option.bind_eq_some_iff.1 h19
              refine V_call Tryd.call40 rfl rfl rfl rfl (portref2_skillsFault_c w58 hA x27.skills v74 h76 hx77) ?_
              rintro _ w78 ⟨rfl, hk79⟩
              have ht80 := Kp.tr (Dw := False) hk79 hA hB
              replace hH := Hp.kp (Dw := False) hH hk79
              replace h_l := Sl.tr (Dw := False) h_l ht80
              replace h42 := El.tr (Dw := False) h42 ht80
              replace h73 := El.tr (Dw := False) h73 ht80
              replace h76 := Sl.tr (Dw := False) h76 ht80
              replace hK := Tr.trans (Dw := False) hK ht80
              replace hr6 := Tr.trans (Dw := False) hr6 ht80
              replace hB := Nat.le_trans hB ht80.ex.size
              replace hA := ht80.new
              refine V_y (Y_assign rfl) rfl rfl rfl ?_
              refine V_to (fun _ _ => rfl) ?_
              refine C_seq ?_
              refine C_region ?_
              refine V_y (Y_move rfl) rfl rfl rfl ?_
              refine V_y (Y_neq rfl rfl) rfl rfl rfl ?_
              refine V_to (fun _ _ => rfl) ?_
              refine C_cond rfl (fun hc81 => ?_) (fun hc81 => ?_)
              · rw [if_pos hc81] at h19
                refine C_seq ?_
                refine C_region ?_
                refine V_y (Y_move rfl) rfl rfl rfl ?_
                refine V_y (Y_assign rfl) rfl rfl rfl ?_
                refine V_to (fun _ _ => rfl) ?_
                obtain rfl := Option.some.inj h19
                obtain rfl := (h20 : Lp.rt _ = _)
                rw [Lp.andThen_rt] at hm
                obtain rfl := Option.some.inj hm
                refine C_ret ?_
                try simp only [↓inBlock_ret, ↓then_ret]
                exact retQ rfl (Res.one Tryd.results26 rfl) ⟨rfl, hK.kp⟩
              · rw [if_neg (nt hc81)] at h19
                refine C_skip_to (fun _ _ => rfl) ?_
                refine C_region ?_
                refine V_y (Y_addI rfl rfl) rfl rfl rfl ?_
                refine V_y (Y_move rfl) rfl rfl rfl ?_
                obtain rfl := Option.some.inj h19
                refine V_end (fun a ha82 => ?_)
                exact ⟨(), hlt22, h20, ⟨A16, ha82.sub ⟨rfl, rfl, rfl, (congrArg (fun z => some (Value.int .i64 z)) (w64_succ hlt22 hn25)), trivial⟩, ⟨hH, hr6⟩⟩⟩
      · refine C_exit (fun a ha83 => ?_)
        exact ⟨((), A16), ha83.sub trivial, ⟨(h23 (eq_of_dec hle21 hc26)).symm, hH, hr6⟩⟩
    rintro ⟨s5, A12⟩ w9 ⟨rfl, hH13, hk10⟩ a ha11
    rw [Lp.andThen_fin] at hm
    replace hK := Tr.trans (Dw := False) hK hk10
    replace hB := Nat.le_trans hB hk10.ex.size
    replace hA := hk10.new
    replace hH : Hp w.heap.size A12 w9 ([]) := hH13
    refine C_at (n := ⟨65, [], none⟩) (fun _ _ => rfl) ?_ ha11
    refine C_seq ?_
    refine C_region ?_
    refine V_y (Y_assign rfl) rfl rfl rfl ?_
    refine V_to (fun _ _ => rfl) ?_
    obtain rfl := Option.some.inj hm
    refine C_ret ?_
    try simp only [↓inBlock_ret, ↓then_ret]
    exact retQ rfl (Res.one Tryd.results26 rfl) ⟨rfl, hK.kp⟩

set_option maxRecDepth 4000 in
set_option maxHeartbeats 4000000 in
theorem portref2_ZoneFault_1_c (w : World) (n : Int) : Ret Tryd.prog 64 #[.int .i64 n] w fun v w' => v = .bool (portref2_ZoneFault_1 n) ∧ w = w' := by
  generalize hm : portref2_ZoneFault_1 n = r
  unfold portref2_ZoneFault_1 at hm
  refine enter Tryd.func64 rfl Tryd.ntmps64 rfl ?_
  refine C_seq ?_
  refine C_region ?_
  refine V_y (Y_assign rfl) rfl rfl rfl ?_
  refine V_to (fun _ _ => rfl) ?_
  refine C_seq ?_
  refine C_region ?_
  refine V_y (Y_move rfl) rfl rfl rfl ?_
  refine V_y (Y_lss rfl rfl) rfl rfl rfl ?_
  refine V_y (Y_move rfl) rfl rfl rfl ?_
  refine V_cut 3 (fun _ : Unit => [(8, .bool ((decide (n < (-1440))) || (decide ((1440 : Int) < n))))]) (fun _ w' => w = w') ?_ ?_
  · simp only [List.take, List.drop]
    rcases Bool.eq_false_or_eq_true (decide (n < (-1440))) with hc1 | hc1
    · refine V_gn rfl rfl rfl hc1 rfl rfl rfl ?_
      refine V_gn rfl rfl rfl hc1 rfl rfl rfl ?_
      refine V_y (Y_pick_te rfl hc1 rfl) rfl rfl rfl ?_
      exact V_end fun a ha => ⟨(), ha.sub ⟨(by rw [hc1]; rfl), trivial⟩, rfl⟩
    · refine V_ge rfl rfl rfl hc1 ?_
      refine V_y (Y_move rfl) rfl rfl rfl ?_
      refine V_ge rfl rfl rfl hc1 ?_
      refine V_y (Y_gtr rfl rfl) rfl rfl rfl ?_
      refine V_y (Y_pick_fe rfl hc1 rfl) rfl rfl rfl ?_
      exact V_end fun a ha => ⟨(), ha.sub ⟨(by rw [hc1]; rfl), trivial⟩, rfl⟩
  simp only [List.take, List.drop]
  rintro _ _ rfl
  refine V_y (Y_assign rfl) rfl rfl rfl ?_
  refine V_to (fun _ _ => rfl) ?_
  obtain rfl := hm
  refine C_ret ?_
  try simp only [↓inBlock_ret, ↓then_ret]
  exact retQ rfl (Res.one Tryd.results64 rfl) ⟨rfl, rfl⟩

set_option maxRecDepth 4000 in
set_option maxHeartbeats 4000000 in
theorem portref2_ZoneFault_c (w : World) {A : Nat → Prop} (hA : ∀ b, w.heap.size ≤ b → A b) (z : cal_Zone) (v_z : Value) (h_z : Sl A w v_z z.changes) {r : Int} (hm : portref2_ZoneFault z = some r) : Ret Tryd.prog 53 #[.agg #[.int .i64 z.offset, v_z]] w fun v w' => v = .int .i64 r ∧ Kp Dw w w' := by
  unfold portref2_ZoneFault at hm
  refine enter Tryd.func53 rfl Tryd.ntmps53 rfl ?_
  have hA0 := hA
  have hB := Nat.le_refl w.heap.size
  have hK : Tr Dw w.heap.size A w A w := Tr.refl (Dw := Dw) hA
  have hH : Hp w.heap.size A w [] := Hp.nil
  refine C_seq ?_
  refine C_region ?_
  refine V_box rfl rfl ?_
  intro b3 w4 h5
  have hk7 := h5.kp (Dw := Dw)
  have h6 : El (α := cal_Zone) A w4 b3 0 z := h5.el hA ⟨[.int .i64 z.offset], _, rfl, rfl, ⟨_, rfl, h_z⟩⟩
  have ht8 := Kp.tr (Dw := Dw) hk7 hA hB
  replace hH := Hp.kp (Dw := Dw) hH hk7
  replace h_z := Sl.tr (Dw := Dw) h_z ht8
  replace hK := Tr.trans (Dw := Dw) hK ht8
  replace hB := Nat.le_trans hB ht8.ex.size
  replace hA := ht8.new
  refine V_y (Y_assign rfl) rfl rfl rfl ?_
  refine V_to (fun _ _ => rfl) ?_
  refine C_seq ?_
  refine C_region ?_
  refine V_y (Y_assign rfl) rfl rfl rfl ?_
  refine V_to (fun _ _ => rfl) ?_
  refine C_seq ?_
  refine C_seq ?_
  refine C_region ?_
  refine V_y (Y_move rfl) rfl rfl rfl ?_
  have h9 := El_cal_Zone_0 h6
  refine V_y (Y_fieldAddr Tryd.underlying42 rfl Tryd.sizeOf3 (by decide) rfl) rfl rfl rfl ?_
  refine V_y (Y_load (El.int h9) Tryd.isAgg3 rfl) rfl rfl rfl ?_
  refine V_call Tryd.call64 rfl rfl rfl rfl (portref2_ZoneFault_1_c w4 z.offset) ?_
  rintro _ _ ⟨rfl, rfl⟩
  refine V_to (fun _ _ => rfl) ?_
  refine C_cond rfl (fun hc10 => ?_) (fun hc10 => ?_)
  · rw [if_pos hc10] at hm
    refine C_seq ?_
    refine C_region ?_
    refine V_y (Y_assign rfl) rfl rfl rfl ?_
    refine V_to (fun _ _ => rfl) ?_
    obtain rfl := Option.some.inj hm
    refine C_ret ?_
    try simp only [↓inBlock_ret, ↓then_ret]
    exact retQ rfl (Res.one Tryd.results53 rfl) ⟨rfl, hK.kp⟩
  · rw [if_neg (nt hc10)] at hm
    refine C_skip_to (fun _ _ => rfl) ?_
    refine C_seq ?_
    refine C_seq ?_
    refine C_region ?_
    have h11 := El_cal_Zone_1 h6
    refine V_y (Y_fieldAddr Tryd.underlying42 rfl Tryd.sizeOf40 (by decide) rfl) rfl rfl rfl ?_
    obtain ⟨v12, h13, h14⟩ := El.list h11
    refine V_y (Y_load h13 Tryd.isAgg40 rfl) rfl rfl rfl ?_
    refine V_y (Y_lenSl h14 rfl Tryd.underlying40 rfl) rfl rfl rfl ?_
    refine V_y (Y_gtr rfl rfl) rfl rfl rfl ?_
    refine V_to (fun _ _ => rfl) ?_
    refine C_cond rfl (fun hc15 => ?_) (fun hc15 => ?_)
    · rw [if_pos hc15] at hm
      refine C_seq ?_
      refine C_region ?_
      refine V_y (Y_assign rfl) rfl rfl rfl ?_
      refine V_to (fun _ _ => rfl) ?_
      obtain rfl := Option.some.inj hm
      refine C_ret ?_
      try simp only [↓inBlock_ret, ↓then_ret]
      exact retQ rfl (Res.one Tryd.results53 rfl) ⟨rfl, hK.kp⟩
    · rw [if_neg (nt hc15)] at hm
      refine C_skip_to (fun _ _ => rfl) ?_
      refine C_seq ?_
      refine C_region ?_
      have h16 := El_cal_Zone_0 h6
      refine V_y (Y_fieldAddr Tryd.underlying42 rfl Tryd.sizeOf3 (by decide) rfl) rfl rfl rfl ?_
      refine V_y (Y_load (El.int h16) Tryd.isAgg3 rfl) rfl rfl rfl ?_
      refine V_y (Y_assign rfl) rfl rfl rfl ?_
      refine V_to (fun _ _ => rfl) ?_
      refine C_seq ?_
      refine C_seq ?_
      refine C_region ?_
      have h17 := El_cal_Zone_1 h6
      refine V_y (Y_fieldAddr Tryd.underlying42 rfl Tryd.sizeOf40 (by decide) rfl) rfl rfl rfl ?_
      obtain ⟨v18, h19, h20⟩ := El.list h17
      refine V_y (Y_load h19 Tryd.isAgg40 rfl) rfl rfl rfl ?_
      refine V_y (Y_lenSl h20 rfl Tryd.underlying40 rfl) rfl rfl rfl ?_
      refine V_y (Y_move rfl) rfl rfl rfl ?_
      refine V_to (fun _ _ => rfl) ?_
      have hn41 := Sl.le h20
      obtain ⟨o21, ho21, hm⟩ := Option.bind_eq_some_iff.1 hm
      refine C_cutG (ι := (Int × (Nat → Prop))) (fun ⟨s22, A28⟩ => []) (fun ⟨s22, A28⟩ => fun w' => o21 = .fin s22 ∧ Hp w.heap.size A28 w' ([]) ∧ Tr Dw w.heap.size A w4 A28 w') ?_ ?_
      · refine C_block ?_
        refine C_range ho21 (fun k24 s30 a w' => ∃ i : (Nat → Prop), Has ⟨63, [], none⟩ a ([(1, .pointer (some ⟨b3, 0, none⟩)), (3, .func (.func 64) #[] #[]), (4, .int .i64 s30), (18, v18), (19, .int .i64 (z.changes.length : Int)), (20, .int .i64 (k24 : Int))]) ∧ Hp w.heap.size i w' ([]) ∧ Tr Dw w.heap.size A w4 i w') (fun a ha => ⟨A, ha.sub ⟨rfl, rfl, rfl, rfl, rfl, rfl, trivial⟩, ⟨hH, Tr.refl (Dw := Dw) hA⟩⟩) ?_
        rintro K k24 s30 a w31 ⟨A32, ha97, hH33, hr23⟩ hle37 K40 h39
        refine C_of ?_ ha97
        replace h6 := El.tr (Dw := Dw) h6 hr23
        replace h20 := Sl.tr (Dw := Dw) h20 hr23
        replace hK := Tr.trans (Dw := Dw) hK hr23
        replace hB := Nat.le_trans hB hr23.ex.size
        replace hA := hr23.new
        replace hH : Hp w.heap.size A32 w31 ([]) := hH33
        refine C_seq (C_region (V_y (Y_lss rfl rfl) rfl rfl rfl (V_to (fun _ _ => rfl) ?_)))
        refine C_seq ?_
        refine C_cond rfl (fun hc42 => ?_) (fun hc42 => ?_)
        · have hlt38 := lt_of_dec hc42
          obtain ⟨x34, h35, h36⟩ := K40 hlt38
          refine C_skip_to (fun _ _ => rfl) ?_
          refine C_seq ?_
          refine C_block ?_
          refine C_seq ?_
          refine C_region ?_
          refine V_y (Y_move rfl) rfl rfl rfl ?_
          obtain ⟨x43, hx43, h35⟩ := Option.bind_eq_some_iff.1 h35
          refine V_indexAddr h20 hx43 Tryd.underlying40 Tryd.sizeOf94 rfl rfl rfl ?_
          intro b44 o45 h46
          obtain ⟨h47, _⟩ := El_cal_Change h46
          refine V_y (Y_loadA h47 Tryd.isAgg94 Tryd.sizeOf94 rfl) rfl rfl rfl ?_
          refine V_alloc Tryd.zeroValue94 rfl ?_
          intro b48 w49 h50
          refine V_y (Y_assign rfl) rfl rfl rfl ?_
          refine V_storeNew h50 Tryd.sizeOf94 rfl rfl rfl rfl (by exact (List.forall_mem_cons.2 ⟨rfl, (List.forall_mem_cons.2 ⟨rfl, (fun _ h => nomatch h)⟩)⟩)) ?_
          intro w51 h52
          have hk54 := h52.kp (Dw := Dw)
          have h53 : El (α := cal_Change) A32 w51 b48 0 x43 := h52.el hA ⟨[.int .i64 x43.at_], _, rfl, rfl, rfl⟩
          have ht55 := Kp.tr (Dw := Dw) hk54 hA hB
          replace hH := Hp.kp (Dw := Dw) hH hk54
          replace h6 := El.tr (Dw := Dw) h6 ht55
          replace h20 := Sl.tr (Dw := Dw) h20 ht55
          replace h46 := El.tr (Dw := Dw) h46 ht55
          replace hK := Tr.trans (Dw := Dw) hK ht55
          replace hr23 := Tr.trans (Dw := Dw) hr23 ht55
          replace hB := Nat.le_trans hB ht55.ex.size
          replace hA := ht55.new
          refine V_to (fun _ _ => rfl) ?_
          refine C_seq ?_
          refine C_block ?_
          refine C_seq ?_
          obtain ⟨s57, ho56, h35⟩ := Option.bind_eq_some_iff.1 h35
          refine C_cutG (ι := (Nat → Prop)) (fun (A62 : (Nat → Prop)) => [(1, .pointer (some ⟨b3, 0, none⟩)), (3, .func (.func 64) #[] #[]), (4, .int .i64 s30), (5, .int .i64 (k24 : Int)), (6, .pointer (some ⟨b48, 0, none⟩)), (18, v18), (19, .int .i64 (z.changes.length : Int)), (20, .int .i64 (k24 : Int)), (25, .bool s57)]) (fun (A62 : (Nat → Prop)) => fun w' => Hp w.heap.size A62 w' ([]) ∧ Tr Dw w.heap.size A32 w51 A62 w') ?_ ?_
          · have hr58 : Tr Dw w.heap.size A32 w51 A32 w51 := Tr.refl (Dw := Dw) hA
            refine C_region ?_
            have h64 := El_cal_Change_0 h53
            refine V_y (Y_fieldAddr Tryd.underlying94 rfl Tryd.sizeOf3 (by decide) rfl) rfl rfl rfl ?_
            refine V_y (Y_load (El.int h64) Tryd.isAgg3 rfl) rfl rfl rfl ?_
            refine V_y (Y_lss rfl rfl) rfl rfl rfl ?_
            refine V_y (Y_move rfl) rfl rfl rfl ?_
            rcases Bool.eq_false_or_eq_true (decide (x43.at_ < 1)) with hc65 | hc65
            · rw [if_pos hc65] at ho56
              refine V_gn rfl rfl rfl hc65 rfl rfl rfl ?_
              refine V_gn rfl rfl rfl hc65 rfl rfl rfl ?_
              refine V_gn rfl rfl rfl hc65 rfl rfl rfl ?_
              refine V_y (Y_pick_te rfl hc65 rfl) rfl rfl rfl ?_
              refine V_y (Y_move rfl) rfl rfl rfl ?_
              rcases Bool.eq_false_or_eq_true (true) with hc66 | hc66
              · rw [if_pos hc66] at ho56
                refine V_gn rfl rfl rfl hc66 rfl rfl rfl ?_
                refine V_gn rfl rfl rfl hc66 rfl rfl rfl ?_
                refine V_gn rfl rfl rfl hc66 rfl rfl rfl ?_
                refine V_gn rfl rfl rfl hc66 rfl rfl rfl ?_
                refine V_y (Y_pick_te rfl hc66 rfl) rfl rfl rfl ?_
                refine V_y (Y_assign rfl) rfl rfl rfl ?_
                obtain rfl := Option.some.inj ho56
                refine V_end (fun a ha67 => ?_)
                exact ⟨A32, ha67.sub ⟨rfl, rfl, rfl, rfl, rfl, rfl, rfl, rfl, rfl, trivial⟩, ⟨hH, hr58⟩⟩
              · rw [if_neg (nt hc66)] at ho56
                refine V_ge rfl rfl rfl hc66 ?_
                refine V_y (Y_move rfl) rfl rfl rfl ?_
                refine V_ge rfl rfl rfl hc66 ?_
                have h68 := El_cal_Change_1 h53
                refine V_y (Y_fieldAddr Tryd.underlying94 rfl Tryd.sizeOf3 (by decide) rfl) rfl rfl rfl ?_
                refine V_ge rfl rfl rfl hc66 ?_
                refine V_y (Y_load (El.int h68) Tryd.isAgg3 rfl) rfl rfl rfl ?_
                refine V_ge rfl rfl rfl hc66 ?_
                refine V_call Tryd.call64 rfl rfl rfl rfl (portref2_ZoneFault_1_c w51 x43.offset) ?_
                rintro _ _ ⟨rfl, rfl⟩
                refine V_y (Y_pick_fe rfl hc66 rfl) rfl rfl rfl ?_
                refine V_y (Y_assign rfl) rfl rfl rfl ?_
                obtain rfl := Option.some.inj ho56
                refine V_end (fun a ha69 => ?_)
                exact ⟨A32, ha69.sub ⟨rfl, rfl, rfl, rfl, rfl, rfl, rfl, rfl, rfl, trivial⟩, ⟨hH, hr58⟩⟩
            · rw [if_neg (nt hc65)] at ho56
              refine V_ge rfl rfl rfl hc65 ?_
              have h70 := El_cal_Change_0 h53
              refine V_y (Y_fieldAddr Tryd.underlying94 rfl Tryd.sizeOf3 (by decide) rfl) rfl rfl rfl ?_
              refine V_ge rfl rfl rfl hc65 ?_
              refine V_y (Y_load (El.int h70) Tryd.isAgg3 rfl) rfl rfl rfl ?_
              refine V_ge rfl rfl rfl hc65 ?_
              refine V_y (Y_gtr rfl rfl) rfl rfl rfl ?_
              refine V_y (Y_pick_fe rfl hc65 rfl) rfl rfl rfl ?_
              refine V_y (Y_move rfl) rfl rfl rfl ?_
              rcases Bool.eq_false_or_eq_true (decide ((3000000 : Int) < x43.at_)) with hc71 | hc71
              · rw [if_pos hc71] at ho56
                refine V_gn rfl rfl rfl hc71 rfl rfl rfl ?_
                refine V_gn rfl rfl rfl hc71 rfl rfl rfl ?_
                refine V_gn rfl rfl rfl hc71 rfl rfl rfl ?_
                refine V_gn rfl rfl rfl hc71 rfl rfl rfl ?_
                refine V_y (Y_pick_te rfl hc71 rfl) rfl rfl rfl ?_
                refine V_y (Y_assign rfl) rfl rfl rfl ?_
                obtain rfl := Option.some.inj ho56
                refine V_end (fun a ha72 => ?_)
                exact ⟨A32, ha72.sub ⟨rfl, rfl, rfl, rfl, rfl, rfl, rfl, rfl, rfl, trivial⟩, ⟨hH, hr58⟩⟩
              · rw [if_neg (nt hc71)] at ho56
                refine V_ge rfl rfl rfl hc71 ?_
                refine V_y (Y_move rfl) rfl rfl rfl ?_
                refine V_ge rfl rfl rfl hc71 ?_
                have h73 := El_cal_Change_1 h53
                refine V_y (Y_fieldAddr Tryd.underlying94 rfl Tryd.sizeOf3 (by decide) rfl) rfl rfl rfl ?_
                refine V_ge rfl rfl rfl hc71 ?_
                refine V_y (Y_load (El.int h73) Tryd.isAgg3 rfl) rfl rfl rfl ?_
                refine V_ge rfl rfl rfl hc71 ?_
                refine V_call Tryd.call64 rfl rfl rfl rfl (portref2_ZoneFault_1_c w51 x43.offset) ?_
                rintro _ _ ⟨rfl, rfl⟩
                refine V_y (Y_pick_fe rfl hc71 rfl) rfl rfl rfl ?_
                refine V_y (Y_assign rfl) rfl rfl rfl ?_
                obtain rfl := Option.some.inj ho56
                refine V_end (fun a ha74 => ?_)
                exact ⟨A32, ha74.sub ⟨rfl, rfl, rfl, rfl, rfl, rfl, rfl, rfl, rfl, trivial⟩, ⟨hH, hr58⟩⟩
          rintro A62 w59 ⟨hH63, hk60⟩ a ha61
          replace h6 := El.tr (Dw := Dw) h6 hk60
          replace h20 := Sl.tr (Dw := Dw) h20 hk60
          replace h53 := El.tr (Dw := Dw) h53 hk60
          replace hK := Tr.trans (Dw := Dw) hK hk60
          replace hr23 := Tr.trans (Dw := Dw) hr23 hk60
          replace hB := Nat.le_trans hB hk60.ex.size
          replace hA := hk60.new
          replace hH : Hp w.heap.size A62 w59 ([]) := hH63
          refine C_at (n := ⟨63, [], none⟩) (fun _ _ => rfl) ?_ ha61
          refine C_cond rfl (fun hc75 => ?_) (fun hc75 => ?_)
          · rw [if_pos hc75] at h35
            refine C_seq ?_
            refine C_region ?_
            refine V_y (Y_assign rfl) rfl rfl rfl ?_
            refine V_to (fun _ _ => rfl) ?_
            obtain rfl := Option.some.inj h35
            obtain rfl := (h36 : Lp.rt _ = _)
            rw [Lp.andThen_rt] at hm
            obtain rfl := Option.some.inj hm
            refine C_ret ?_
            try simp only [↓inBlock_ret, ↓then_ret]
            exact retQ rfl (Res.one Tryd.results53 rfl) ⟨rfl, hK.kp⟩
          · rw [if_neg (nt hc75)] at h35
            refine C_seq ?_
            refine C_region_q (Dw := Dw) Tryd_mixed (by kernel_rfl) ?_
            refine VQ_y (fun w' hw' => Y_move rfl) rfl rfl rfl ?_
            refine VQ_y (fun w' hw' => Y_gtr rfl rfl) rfl rfl rfl ?_
            refine VQ_y (fun w' hw' => Y_move rfl) rfl rfl rfl ?_
            obtain ⟨s77, hs77, h35⟩ := Option.bind_eq_some_iff.1 h35
            refine VQ_cut 11 (fun _ : Unit => [(1, .pointer (some ⟨b3, 0, none⟩)), (3, .func (.func 64) #[] #[]), (4, .int .i64 s30), (6, .pointer (some ⟨b48, 0, none⟩)), (18, v18), (19, .int .i64 (z.changes.length : Int)), (20, .int .i64 (k24 : Int)), (54, .bool s77)]) (fun _ => True) ?_ ?_
            · simp only [List.take, List.drop]
              rcases Bool.eq_false_or_eq_true (decide ((0 : Int) < (k24 : Int))) with hc76 | hc76
              · rw [if_pos hc76] at hs77
                refine VQ_ge rfl rfl rfl hc76 ?_
                have h78 := El_cal_Change_0 h53
                refine VQ_y (fun w' hw' => Y_fieldAddr Tryd.underlying94 rfl Tryd.sizeOf3 (by decide) rfl) rfl rfl rfl ?_
                refine VQ_ge rfl rfl rfl hc76 ?_
                refine VQ_y (fun w' hw' => Y_load (El.int (El.kp (Dw := Dw) h78 hw')) Tryd.isAgg3 rfl) rfl rfl rfl ?_
                refine VQ_ge rfl rfl rfl hc76 ?_
                have h79 := El_cal_Zone_1 h6
                refine VQ_y (fun w' hw' => Y_fieldAddr Tryd.underlying42 rfl Tryd.sizeOf40 (by decide) rfl) rfl rfl rfl ?_
                refine VQ_ge rfl rfl rfl hc76 ?_
                obtain ⟨v80, h81, h82⟩ := El.list h79
                refine VQ_y (fun w' hw' => Y_load ((World.cell?_of_block (hw'.block _ (World.block_lt_of_cell? _ _ h81))).trans h81) Tryd.isAgg40 rfl) rfl rfl rfl ?_
                refine VQ_ge rfl rfl rfl hc76 ?_
                refine VQ_y (fun w' hw' => Y_move rfl) rfl rfl rfl ?_
                refine VQ_ge rfl rfl rfl hc76 ?_
                refine VQ_y (fun w' hw' => Y_subI rfl rfl) rfl rfl rfl ?_
                refine VQ_ge rfl rfl rfl hc76 ?_
                obtain ⟨x83, hx83, hs77⟩ := Option.bind_eq_some_iff.1 hs77
                refine VQ_indexAddr h82 hx83 Tryd.underlying40 Tryd.sizeOf94 rfl rfl rfl ?_
                intro b84 o85 h86
                refine VQ_ge rfl rfl rfl hc76 ?_
                have h87 := El_cal_Change_0 h86
                refine VQ_y (fun w' hw' => Y_fieldAddr Tryd.underlying94 rfl Tryd.sizeOf3 (by decide) rfl) rfl rfl rfl ?_
                refine VQ_ge rfl rfl rfl hc76 ?_
                refine VQ_y (fun w' hw' => Y_load (El.int (El.kp (Dw := Dw) h87 hw')) Tryd.isAgg3 rfl) rfl rfl rfl ?_
                refine VQ_ge rfl rfl rfl hc76 ?_
                refine VQ_y (fun w' hw' => Y_leq rfl rfl) rfl rfl rfl ?_
                refine VQ_y (fun _ _ => Y_pick_te rfl hc76 rfl) rfl rfl rfl ?_
                obtain rfl := Option.some.inj hs77
                exact VQ_end fun a ha => ⟨(), ha.sub ⟨rfl, rfl, rfl, rfl, rfl, rfl, rfl, rfl, trivial⟩, trivial⟩
              · rw [if_neg (nt hc76)] at hs77
                refine VQ_gn rfl rfl rfl hc76 rfl rfl rfl ?_
                refine VQ_gn rfl rfl rfl hc76 rfl rfl rfl ?_
                refine VQ_gn rfl rfl rfl hc76 rfl rfl rfl ?_
                refine VQ_gn rfl rfl rfl hc76 rfl rfl rfl ?_
                refine VQ_gn rfl rfl rfl hc76 rfl rfl rfl ?_
                refine VQ_gn rfl rfl rfl hc76 rfl rfl rfl ?_
                refine VQ_gn rfl rfl rfl hc76 rfl rfl rfl ?_
                refine VQ_gn rfl rfl rfl hc76 rfl rfl rfl ?_
                refine VQ_gn rfl rfl rfl hc76 rfl rfl rfl ?_
                refine VQ_gn rfl rfl rfl hc76 rfl rfl rfl ?_
                refine VQ_y (fun _ _ => Y_pick_fe rfl hc76 rfl) rfl rfl rfl ?_
                obtain rfl := Option.some.inj hs77
                exact VQ_end fun a ha => ⟨(), ha.sub ⟨rfl, rfl, rfl, rfl, rfl, rfl, rfl, rfl, trivial⟩, trivial⟩
            simp only [List.take, List.drop]
            rintro _ _
            refine VQ_y (fun w' hw' => Y_assign rfl) rfl rfl rfl ?_
            refine VQ_to (fun _ _ => rfl) (fun w88 hk89 => ?_)
            have ht90 := Kp.tr (Dw := Dw) hk89 hA hB
            replace hH := Hp.kp (Dw := Dw) hH hk89
            replace h6 := El.tr (Dw := Dw) h6 ht90
            replace h20 := Sl.tr (Dw := Dw) h20 ht90
            replace h53 := El.tr (Dw := Dw) h53 ht90
            replace hK := Tr.trans (Dw := Dw) hK ht90
            replace hr23 := Tr.trans (Dw := Dw) hr23 ht90
            replace hB := Nat.le_trans hB ht90.ex.size
            replace hA := ht90.new
            refine C_cond rfl (fun hc91 => ?_) (fun hc91 => ?_)
            · rw [if_pos hc91] at h35
              refine C_seq ?_
              refine C_region ?_
              refine V_y (Y_assign rfl) rfl rfl rfl ?_
              refine V_to (fun _ _ => rfl) ?_
              obtain rfl := Option.some.inj h35
              obtain rfl := (h36 : Lp.rt _ = _)
              rw [Lp.andThen_rt] at hm
              obtain rfl := Option.some.inj hm
              refine C_ret ?_
              try simp only [↓inBlock_ret, ↓then_ret]
              exact retQ rfl (Res.one Tryd.results53 rfl) ⟨rfl, hK.kp⟩
            · rw [if_neg (nt hc91)] at h35
              refine C_seq ?_
              refine C_region ?_
              have h92 := El_cal_Change_1 h53
              refine V_y (Y_fieldAddr Tryd.underlying94 rfl Tryd.sizeOf3 (by decide) rfl) rfl rfl rfl ?_
              refine V_y (Y_load (El.int h92) Tryd.isAgg3 rfl) rfl rfl rfl ?_
              refine V_y (Y_move rfl) rfl rfl rfl ?_
              refine V_y (Y_eql rfl rfl) rfl rfl rfl ?_
              refine V_y (Y_assign rfl) rfl rfl rfl ?_
              refine V_to (fun _ _ => rfl) ?_
              refine C_cond rfl (fun hc93 => ?_) (fun hc93 => ?_)
              · rw [if_pos hc93] at h35
                refine C_seq ?_
                refine C_region ?_
                refine V_y (Y_assign rfl) rfl rfl rfl ?_
                refine V_to (fun _ _ => rfl) ?_
                obtain rfl := Option.some.inj h35
                obtain rfl := (h36 : Lp.rt _ = _)
                rw [Lp.andThen_rt] at hm
                obtain rfl := Option.some.inj hm
                refine C_ret ?_
                try simp only [↓inBlock_ret, ↓then_ret]
                exact retQ rfl (Res.one Tryd.results53 rfl) ⟨rfl, hK.kp⟩
              · rw [if_neg (nt hc93)] at h35
                refine C_skip_to (fun _ _ => rfl) ?_
                refine C_region ?_
                have h94 := El_cal_Change_1 h53
                refine V_y (Y_fieldAddr Tryd.underlying94 rfl Tryd.sizeOf3 (by decide) rfl) rfl rfl rfl ?_
                refine V_y (Y_load (El.int h94) Tryd.isAgg3 rfl) rfl rfl rfl ?_
                refine V_y (Y_assign rfl) rfl rfl rfl ?_
                refine V_to (fun _ _ => rfl) ?_
                refine C_region ?_
                refine V_y (Y_addI rfl rfl) rfl rfl rfl ?_
                refine V_y (Y_move rfl) rfl rfl rfl ?_
                obtain rfl := Option.some.inj h35
                refine V_end (fun a ha95 => ?_)
                exact ⟨x43.offset, hlt38, h36, ⟨A62, ha95.sub ⟨rfl, rfl, rfl, rfl, rfl, (congrArg (fun z => some (Value.int .i64 z)) (w64_succ hlt38 hn41)), trivial⟩, ⟨hH, hr23⟩⟩⟩
        · refine C_exit (fun a ha96 => ?_)
          exact ⟨(s30, A32), ha96.sub trivial, ⟨(h39 (eq_of_dec hle37 hc42)).symm, hH, hr23⟩⟩
      rintro ⟨s22, A28⟩ w25 ⟨rfl, hH29, hk26⟩ a ha27
      rw [Lp.andThen_fin] at hm
      replace hK := Tr.trans (Dw := Dw) hK hk26
      replace hB := Nat.le_trans hB hk26.ex.size
      replace hA := hk26.new
      replace hH : Hp w.heap.size A28 w25 ([]) := hH29
      refine C_at (n := ⟨63, [], none⟩) (fun _ _ => rfl) ?_ ha27
      refine C_seq ?_
      refine C_region ?_
      refine V_y (Y_assign rfl) rfl rfl rfl ?_
      refine V_to (fun _ _ => rfl) ?_
      obtain rfl := Option.some.inj hm
      refine C_ret ?_
      try simp only [↓inBlock_ret, ↓then_ret]
      exact retQ rfl (Res.one Tryd.results53 rfl) ⟨rfl, hK.kp⟩

set_option maxRecDepth 4000 in
set_option maxHeartbeats 4000000 in
theorem portref2_shiftFault_c (w : World) {A : Nat → Prop} (hA : ∀ b, w.heap.size ≤ b → A b) (l : (List cal_Shift)) (v_l : Value) (h_l : Sl A w v_l l) (week : Bool) {r : Int} (hm : portref2_shiftFault l week = some r) : Ret Tryd.prog 54 #[v_l, .bool week] w fun v w' => v = .int .i64 r ∧ Kp Dw w w' := by
  unfold portref2_shiftFault at hm
  refine enter Tryd.func54 rfl Tryd.ntmps54 rfl ?_
  have hA0 := hA
  have hB := Nat.le_refl w.heap.size
  have hK : Tr Dw w.heap.size A w A w := Tr.refl (Dw := Dw) hA
  have hH : Hp w.heap.size A w [] := Hp.nil
  refine C_seq ?_
  refine C_region ?_
  refine V_y (Y_assign rfl) rfl rfl rfl ?_
  refine V_to (fun _ _ => rfl) ?_
  refine C_seq ?_
  refine C_seq ?_
  refine C_region ?_
  refine V_y (Y_move rfl) rfl rfl rfl ?_
  refine V_y (Y_lenSl h_l rfl Tryd.underlying43 rfl) rfl rfl rfl ?_
  refine V_y (Y_move rfl) rfl rfl rfl ?_
  refine V_to (fun _ _ => rfl) ?_
  have hn23 := Sl.le h_l
  obtain ⟨o3, ho3, hm⟩ := Option.bind_eq_some_iff.1 hm
  refine C_cutG (ι := (Unit × (Nat → Prop))) (fun ⟨s4, A10⟩ => []) (fun ⟨s4, A10⟩ => fun w' => o3 = .fin s4 ∧ Hp w.heap.size A10 w' ([]) ∧ Tr Dw w.heap.size A w A10 w') ?_ ?_
  · refine C_block ?_
    refine C_range ho3 (fun k6 _ a w' => ∃ i : (Nat → Prop), Has ⟨81, [], none⟩ a ([(0, v_l), (1, .bool week), (8, v_l), (9, .int .i64 (l.length : Int)), (10, .int .i64 (k6 : Int))]) ∧ Hp w.heap.size i w' ([]) ∧ Tr Dw w.heap.size A w i w') (fun a ha => ⟨A, ha.sub ⟨rfl, rfl, rfl, rfl, rfl, trivial⟩, ⟨hH, Tr.refl (Dw := Dw) hA⟩⟩) ?_
    rintro K k6 _ a w13 ⟨A14, ha115, hH15, hr5⟩ hle19 K22 h21
    refine C_of ?_ ha115
    replace h_l := Sl.tr (Dw := Dw) h_l hr5
    replace hK := Tr.trans (Dw := Dw) hK hr5
    replace hB := Nat.le_trans hB hr5.ex.size
    replace hA := hr5.new
    replace hH : Hp w.heap.size A14 w13 ([]) := hH15
    refine C_seq (C_region (V_y (Y_lss rfl rfl) rfl rfl rfl (V_to (fun _ _ => rfl) ?_)))
    refine C_seq ?_
    refine C_cond rfl (fun hc24 => ?_) (fun hc24 => ?_)
    · have hlt20 := lt_of_dec hc24
      obtain ⟨x16, h17, h18⟩ := K22 hlt20
      refine C_skip_to (fun _ _ => rfl) ?_
      refine C_seq ?_
      obtain ⟨o25, ho25, h17⟩ := Option.bind_eq_some_iff.1 h17
      refine C_cutG (ι := (Unit × (Nat → Prop))) (fun ⟨s26, A31⟩ => [(0, v_l), (1, .bool week), (8, v_l), (9, .int .i64 (l.length : Int)), (10, .int .i64 (k6 : Int))]) (fun ⟨s26, A31⟩ => fun w' => o25 = .fin s26 ∧ Hp w.heap.size A31 w' ([]) ∧ Tr Dw w.heap.size A14 w13 A31 w') ?_ ?_
      · have hr27 : Tr Dw w.heap.size A14 w13 A14 w13 := Tr.refl (Dw := Dw) hA
        refine C_block ?_
        refine C_seq ?_
        refine C_region ?_
        refine V_y (Y_move rfl) rfl rfl rfl ?_
        obtain ⟨x33, hx33, ho25⟩ := Option.bind_eq_some_iff.1 ho25
        refine V_indexAddr h_l hx33 Tryd.underlying43 Tryd.sizeOf89 rfl rfl rfl ?_
        intro b34 o35 h36
        obtain ⟨h37, _⟩ := El_cal_Shift h36
        refine V_y (Y_loadA h37 Tryd.isAgg89 Tryd.sizeOf89 rfl) rfl rfl rfl ?_
        refine V_alloc Tryd.zeroValue89 rfl ?_
        intro b38 w39 h40
        refine V_y (Y_assign rfl) rfl rfl rfl ?_
        refine V_storeNew h40 Tryd.sizeOf89 rfl rfl rfl rfl (by exact (List.forall_mem_cons.2 ⟨rfl, (List.forall_mem_cons.2 ⟨rfl, (List.forall_mem_cons.2 ⟨rfl, (fun _ h => nomatch h)⟩)⟩)⟩)) ?_
        intro w41 h42
        have hk44 := h42.kp (Dw := Dw)
        have h43 : El (α := cal_Shift) A14 w41 b38 0 x33 := h42.el hA ⟨[.int .i64 x33.day], _, rfl, rfl, ⟨[.int .i64 x33.from_], _, rfl, rfl, rfl⟩⟩
        have ht45 := Kp.tr (Dw := Dw) hk44 hA hB
        replace hH := Hp.kp (Dw := Dw) hH hk44
        replace h_l := Sl.tr (Dw := Dw) h_l ht45
        replace h36 := El.tr (Dw := Dw) h36 ht45
        replace hK := Tr.trans (Dw := Dw) hK ht45
        replace hr5 := Tr.trans (Dw := Dw) hr5 ht45
        replace hr27 := Tr.trans (Dw := Dw) hr27 ht45
        replace hB := Nat.le_trans hB ht45.ex.size
        replace hA := ht45.new
        refine V_to (fun _ _ => rfl) ?_
        refine C_seq ?_
        refine C_seq ?_
        refine C_region ?_
        refine V_y (Y_move rfl) rfl rfl rfl ?_
        refine V_y (Y_not rfl) rfl rfl rfl ?_
        refine V_y (Y_move rfl) rfl rfl rfl ?_
        refine V_cut 4 (fun _ : Unit => [(0, v_l), (1, .bool week), (5, .int .i64 (k6 : Int)), (6, .pointer (some ⟨b38, 0, none⟩)), (8, v_l), (9, .int .i64 (l.length : Int)), (10, .int .i64 (k6 : Int)), (21, .bool ((!week) && (x33.day != 0)))]) (fun _ w' => w41 = w') ?_ ?_
        · simp only [List.take, List.drop]
          rcases Bool.eq_false_or_eq_true (!week) with hc46 | hc46
          · refine V_ge rfl rfl rfl hc46 ?_
            have h48 := El_cal_Shift_0 h43
            refine V_y (Y_fieldAddr Tryd.underlying89 rfl Tryd.sizeOf3 (by decide) rfl) rfl rfl rfl ?_
            refine V_ge rfl rfl rfl hc46 ?_
            refine V_y (Y_load (El.int h48) Tryd.isAgg3 rfl) rfl rfl rfl ?_
            refine V_ge rfl rfl rfl hc46 ?_
            refine V_y (Y_neq rfl rfl) rfl rfl rfl ?_
            refine V_y (Y_pick_te rfl hc46 rfl) rfl rfl rfl ?_
            exact V_end fun a ha => ⟨(), ha.sub ⟨rfl, rfl, rfl, rfl, rfl, rfl, rfl, (by rw [hc46]; rfl), trivial⟩, rfl⟩
          · refine V_gn rfl rfl rfl hc46 rfl rfl rfl ?_
            refine V_gn rfl rfl rfl hc46 rfl rfl rfl ?_
            refine V_gn rfl rfl rfl hc46 rfl rfl rfl ?_
            refine V_y (Y_pick_fe rfl hc46 rfl) rfl rfl rfl ?_
            exact V_end fun a ha => ⟨(), ha.sub ⟨rfl, rfl, rfl, rfl, rfl, rfl, rfl, (by rw [hc46]; rfl), trivial⟩, rfl⟩
        simp only [List.take, List.drop]
        rintro _ _ rfl
        refine V_to (fun _ _ => rfl) ?_
        refine C_cond rfl (fun hc49 => ?_) (fun hc49 => ?_)
        · rw [if_pos hc49] at ho25
          refine C_seq ?_
          refine C_region ?_
          refine V_y (Y_assign rfl) rfl rfl rfl ?_
          refine V_to (fun _ _ => rfl) ?_
          obtain rfl := Option.some.inj ho25
          rw [Lp.andThen_rt] at h17
          obtain rfl := Option.some.inj h17
          obtain rfl := (h18 : Lp.rt _ = _)
          rw [Lp.andThen_rt] at hm
          obtain rfl := Option.some.inj hm
          refine C_ret ?_
          try simp only [↓inBlock_ret, ↓then_ret]
          exact retQ rfl (Res.one Tryd.results54 rfl) ⟨rfl, hK.kp⟩
        · rw [if_neg (nt hc49)] at ho25
          refine C_skip_to (fun _ _ => rfl) ?_
          refine C_seq ?_
          refine C_seq ?_
          refine C_region ?_
          have h50 := El_cal_Shift_0 h43
          refine V_y (Y_fieldAddr Tryd.underlying89 rfl Tryd.sizeOf3 (by decide) rfl) rfl rfl rfl ?_
          refine V_y (Y_load (El.int h50) Tryd.isAgg3 rfl) rfl rfl rfl ?_
          refine V_y (Y_lss rfl rfl) rfl rfl rfl ?_
          refine V_y (Y_move rfl) rfl rfl rfl ?_
          refine V_cut 4 (fun _ : Unit => [(0, v_l), (1, .bool week), (5, .int .i64 (k6 : Int)), (6, .pointer (some ⟨b38, 0, none⟩)), (8, v_l), (9, .int .i64 (l.length : Int)), (10, .int .i64 (k6 : Int)), (29, .bool ((decide (x33.day < 0)) || (decide ((6 : Int) < x33.day))))]) (fun _ w' => w41 = w') ?_ ?_
          · simp only [List.take, List.drop]
            rcases Bool.eq_false_or_eq_true (decide (x33.day < 0)) with hc51 | hc51
            · refine V_gn rfl rfl rfl hc51 rfl rfl rfl ?_
              refine V_gn rfl rfl rfl hc51 rfl rfl rfl ?_
              refine V_gn rfl rfl rfl hc51 rfl rfl rfl ?_
              refine V_y (Y_pick_te rfl hc51 rfl) rfl rfl rfl ?_
              exact V_end fun a ha => ⟨(), ha.sub ⟨rfl, rfl, rfl, rfl, rfl, rfl, rfl, (by rw [hc51]; rfl), trivial⟩, rfl⟩
            · refine V_ge rfl rfl rfl hc51 ?_
              have h53 := El_cal_Shift_0 h43
              refine V_y (Y_fieldAddr Tryd.underlying89 rfl Tryd.sizeOf3 (by decide) rfl) rfl rfl rfl ?_
              refine V_ge rfl rfl rfl hc51 ?_
              refine V_y (Y_load (El.int h53) Tryd.isAgg3 rfl) rfl rfl rfl ?_
              refine V_ge rfl rfl rfl hc51 ?_
              refine V_y (Y_gtr rfl rfl) rfl rfl rfl ?_
              refine V_y (Y_pick_fe rfl hc51 rfl) rfl rfl rfl ?_
              exact V_end fun a ha => ⟨(), ha.sub ⟨rfl, rfl, rfl, rfl, rfl, rfl, rfl, (by rw [hc51]; rfl), trivial⟩, rfl⟩
          simp only [List.take, List.drop]
          rintro _ _ rfl
          refine V_y (Y_move rfl) rfl rfl rfl ?_
          refine V_cut 4 (fun _ : Unit => [(0, v_l), (1, .bool week), (5, .int .i64 (k6 : Int)), (6, .pointer (some ⟨b38, 0, none⟩)), (8, v_l), (9, .int .i64 (l.length : Int)), (10, .int .i64 (k6 : Int)), (34, .bool (((decide (x33.day < 0)) || (decide ((6 : Int) < x33.day))) || (decide (x33.from_ < 0))))]) (fun _ w' => w41 = w') ?_ ?_
          · simp only [List.take, List.drop]
            rcases Bool.eq_false_or_eq_true (((decide (x33.day < 0)) || (decide ((6 : Int) < x33.day)))) with hc54 | hc54
            · refine V_gn rfl rfl rfl hc54 rfl rfl rfl ?_
              refine V_gn rfl rfl rfl hc54 rfl rfl rfl ?_
              refine V_gn rfl rfl rfl hc54 rfl rfl rfl ?_
              refine V_y (Y_pick_te rfl hc54 rfl) rfl rfl rfl ?_
              exact V_end fun a ha => ⟨(), ha.sub ⟨rfl, rfl, rfl, rfl, rfl, rfl, rfl, (by rw [hc54]; rfl), trivial⟩, rfl⟩
            · refine V_ge rfl rfl rfl hc54 ?_
              have h56 := El_cal_Shift_1 h43
              refine V_y (Y_fieldAddr Tryd.underlying89 rfl Tryd.sizeOf3 (by decide) rfl) rfl rfl rfl ?_
              refine V_ge rfl rfl rfl hc54 ?_
              refine V_y (Y_load (El.int h56) Tryd.isAgg3 rfl) rfl rfl rfl ?_
              refine V_ge rfl rfl rfl hc54 ?_
              refine V_y (Y_lss rfl rfl) rfl rfl rfl ?_
              refine V_y (Y_pick_fe rfl hc54 rfl) rfl rfl rfl ?_
              exact V_end fun a ha => ⟨(), ha.sub ⟨rfl, rfl, rfl, rfl, rfl, rfl, rfl, (by rw [hc54]; rfl), trivial⟩, rfl⟩
          simp only [List.take, List.drop]
          rintro _ _ rfl
          refine V_y (Y_move rfl) rfl rfl rfl ?_
          refine V_cut 4 (fun _ : Unit => [(0, v_l), (1, .bool week), (5, .int .i64 (k6 : Int)), (6, .pointer (some ⟨b38, 0, none⟩)), (8, v_l), (9, .int .i64 (l.length : Int)), (10, .int .i64 (k6 : Int)), (39, .bool ((((decide (x33.day < 0)) || (decide ((6 : Int) < x33.day))) || (decide (x33.from_ < 0))) || (decide ((1440 : Int) ≤ x33.from_))))]) (fun _ w' => w41 = w') ?_ ?_
          · simp only [List.take, List.drop]
            rcases Bool.eq_false_or_eq_true ((((decide (x33.day < 0)) || (decide ((6 : Int) < x33.day))) || (decide (x33.from_ < 0)))) with hc57 | hc57
            · refine V_gn rfl rfl rfl hc57 rfl rfl rfl ?_
              refine V_gn rfl rfl rfl hc57 rfl rfl rfl ?_
              refine V_gn rfl rfl rfl hc57 rfl rfl rfl ?_
              refine V_y (Y_pick_te rfl hc57 rfl) rfl rfl rfl ?_
              exact V_end fun a ha => ⟨(), ha.sub ⟨rfl, rfl, rfl, rfl, rfl, rfl, rfl, (by rw [hc57]; rfl), trivial⟩, rfl⟩
            · refine V_ge rfl rfl rfl hc57 ?_
              have h59 := El_cal_Shift_1 h43
              refine V_y (Y_fieldAddr Tryd.underlying89 rfl Tryd.sizeOf3 (by decide) rfl) rfl rfl rfl ?_
              refine V_ge rfl rfl rfl hc57 ?_
              refine V_y (Y_load (El.int h59) Tryd.isAgg3 rfl) rfl rfl rfl ?_
              refine V_ge rfl rfl rfl hc57 ?_
              refine V_y (Y_geq rfl rfl) rfl rfl rfl ?_
              refine V_y (Y_pick_fe rfl hc57 rfl) rfl rfl rfl ?_
              exact V_end fun a ha => ⟨(), ha.sub ⟨rfl, rfl, rfl, rfl, rfl, rfl, rfl, (by rw [hc57]; rfl), trivial⟩, rfl⟩
          simp only [List.take, List.drop]
          rintro _ _ rfl
          refine V_y (Y_move rfl) rfl rfl rfl ?_
          refine V_cut 6 (fun _ : Unit => [(0, v_l), (1, .bool week), (5, .int .i64 (k6 : Int)), (6, .pointer (some ⟨b38, 0, none⟩)), (8, v_l), (9, .int .i64 (l.length : Int)), (10, .int .i64 (k6 : Int)), (46, .bool (((((decide (x33.day < 0)) || (decide ((6 : Int) < x33.day))) || (decide (x33.from_ < 0))) || (decide ((1440 : Int) ≤ x33.from_))) || (decide (x33.to_ ≤ x33.from_))))]) (fun _ w' => w41 = w') ?_ ?_
          · simp only [List.take, List.drop]
            rcases Bool.eq_false_or_eq_true (((((decide (x33.day < 0)) || (decide ((6 : Int) < x33.day))) || (decide (x33.from_ < 0))) || (decide ((1440 : Int) ≤ x33.from_)))) with hc60 | hc60
            · refine V_gn rfl rfl rfl hc60 rfl rfl rfl ?_
              refine V_gn rfl rfl rfl hc60 rfl rfl rfl ?_
              refine V_gn rfl rfl rfl hc60 rfl rfl rfl ?_
              refine V_gn rfl rfl rfl hc60 rfl rfl rfl ?_
              refine V_gn rfl rfl rfl hc60 rfl rfl rfl ?_
              refine V_y (Y_pick_te rfl hc60 rfl) rfl rfl rfl ?_
              exact V_end fun a ha => ⟨(), ha.sub ⟨rfl, rfl, rfl, rfl, rfl, rfl, rfl, (by rw [hc60]; rfl), trivial⟩, rfl⟩
            · refine V_ge rfl rfl rfl hc60 ?_
              have h62 := El_cal_Shift_2 h43
              refine V_y (Y_fieldAddr Tryd.underlying89 rfl Tryd.sizeOf3 (by decide) rfl) rfl rfl rfl ?_
              refine V_ge rfl rfl rfl hc60 ?_
              refine V_y (Y_load (El.int h62) Tryd.isAgg3 rfl) rfl rfl rfl ?_
              refine V_ge rfl rfl rfl hc60 ?_
              have h63 := El_cal_Shift_1 h43
              refine V_y (Y_fieldAddr Tryd.underlying89 rfl Tryd.sizeOf3 (by decide) rfl) rfl rfl rfl ?_
              refine V_ge rfl rfl rfl hc60 ?_
              refine V_y (Y_load (El.int h63) Tryd.isAgg3 rfl) rfl rfl rfl ?_
              refine V_ge rfl rfl rfl hc60 ?_
              refine V_y (Y_leq rfl rfl) rfl rfl rfl ?_
              refine V_y (Y_pick_fe rfl hc60 rfl) rfl rfl rfl ?_
              exact V_end fun a ha => ⟨(), ha.sub ⟨rfl, rfl, rfl, rfl, rfl, rfl, rfl, (by rw [hc60]; rfl), trivial⟩, rfl⟩
          simp only [List.take, List.drop]
          rintro _ _ rfl
          refine V_y (Y_move rfl) rfl rfl rfl ?_
          refine V_cut 7 (fun _ : Unit => [(0, v_l), (1, .bool week), (5, .int .i64 (k6 : Int)), (6, .pointer (some ⟨b38, 0, none⟩)), (8, v_l), (9, .int .i64 (l.length : Int)), (10, .int .i64 (k6 : Int)), (54, .bool ((((((decide (x33.day < 0)) || (decide ((6 : Int) < x33.day))) || (decide (x33.from_ < 0))) || (decide ((1440 : Int) ≤ x33.from_))) || (decide (x33.to_ ≤ x33.from_))) || (decide ((w64 (x33.from_ + 1440)) < x33.to_))))]) (fun _ w' => w41 = w') ?_ ?_
          · simp only [List.take, List.drop]
            rcases Bool.eq_false_or_eq_true ((((((decide (x33.day < 0)) || (decide ((6 : Int) < x33.day))) || (decide (x33.from_ < 0))) || (decide ((1440 : Int) ≤ x33.from_))) || (decide (x33.to_ ≤ x33.from_)))) with hc64 | hc64
            · refine V_gn rfl rfl rfl hc64 rfl rfl rfl ?_
              refine V_gn rfl rfl rfl hc64 rfl rfl rfl ?_
              refine V_gn rfl rfl rfl hc64 rfl rfl rfl ?_
              refine V_gn rfl rfl rfl hc64 rfl rfl rfl ?_
              refine V_gn rfl rfl rfl hc64 rfl rfl rfl ?_
              refine V_gn rfl rfl rfl hc64 rfl rfl rfl ?_
              refine V_y (Y_pick_te rfl hc64 rfl) rfl rfl rfl ?_
              exact V_end fun a ha => ⟨(), ha.sub ⟨rfl, rfl, rfl, rfl, rfl, rfl, rfl, (by rw [hc64]; rfl), trivial⟩, rfl⟩
            · refine V_ge rfl rfl rfl hc64 ?_
              have h66 := El_cal_Shift_2 h43
              refine V_y (Y_fieldAddr Tryd.underlying89 rfl Tryd.sizeOf3 (by decide) rfl) rfl rfl rfl ?_
              refine V_ge rfl rfl rfl hc64 ?_
              refine V_y (Y_load (El.int h66) Tryd.isAgg3 rfl) rfl rfl rfl ?_
              refine V_ge rfl rfl rfl hc64 ?_
              have h67 := El_cal_Shift_1 h43
              refine V_y (Y_fieldAddr Tryd.underlying89 rfl Tryd.sizeOf3 (by decide) rfl) rfl rfl rfl ?_
              refine V_ge rfl rfl rfl hc64 ?_
              refine V_y (Y_load (El.int h67) Tryd.isAgg3 rfl) rfl rfl rfl ?_
              refine V_ge rfl rfl rfl hc64 ?_
              refine V_y (Y_addI rfl rfl) rfl rfl rfl ?_
              refine V_ge rfl rfl rfl hc64 ?_
              refine V_y (Y_gtr rfl rfl) rfl rfl rfl ?_
              refine V_y (Y_pick_fe rfl hc64 rfl) rfl rfl rfl ?_
              exact V_end fun a ha => ⟨(), ha.sub ⟨rfl, rfl, rfl, rfl, rfl, rfl, rfl, (by rw [hc64]; rfl), trivial⟩, rfl⟩
          simp only [List.take, List.drop]
          rintro _ _ rfl
          refine V_to (fun _ _ => rfl) ?_
          refine C_cond rfl (fun hc68 => ?_) (fun hc68 => ?_)
          · rw [if_pos hc68] at ho25
            refine C_seq ?_
            refine C_region ?_
            refine V_y (Y_assign rfl) rfl rfl rfl ?_
            refine V_to (fun _ _ => rfl) ?_
            obtain rfl := Option.some.inj ho25
            rw [Lp.andThen_rt] at h17
            obtain rfl := Option.some.inj h17
            obtain rfl := (h18 : Lp.rt _ = _)
            rw [Lp.andThen_rt] at hm
            obtain rfl := Option.some.inj hm
            refine C_ret ?_
            try simp only [↓inBlock_ret, ↓then_ret]
            exact retQ rfl (Res.one Tryd.results54 rfl) ⟨rfl, hK.kp⟩
          · rw [if_neg (nt hc68)] at ho25
            refine C_skip_to (fun _ _ => rfl) ?_
            refine C_seq ?_
            refine C_region ?_
            refine V_y (Y_move rfl) rfl rfl rfl ?_
            refine V_y (Y_gtr rfl rfl) rfl rfl rfl ?_
            refine V_to (fun _ _ => rfl) ?_
            obtain ⟨o69, ho69, ho25⟩ := Option.bind_eq_some_iff.1 ho25
            refine C_cutG (ι := (Unit × (Nat → Prop))) (fun ⟨s70, A75⟩ => [(0, v_l), (1, .bool week), (8, v_l), (9, .int .i64 (l.length : Int)), (10, .int .i64 (k6 : Int))]) (fun ⟨s70, A75⟩ => fun w' => o69 = .fin s70 ∧ Hp w.heap.size A75 w' ([]) ∧ Tr Dw w.heap.size A14 w41 A75 w') ?_ ?_
            · have hr71 : Tr Dw w.heap.size A14 w41 A14 w41 := Tr.refl (Dw := Dw) hA
              refine C_cond rfl (fun hc77 => ?_) (fun hc77 => ?_)
              · rw [if_pos hc77] at ho69
                refine C_seq ?_
                refine C_region ?_
                refine V_y (Y_move rfl) rfl rfl rfl ?_
                refine V_y (Y_move rfl) rfl rfl rfl ?_
                refine V_y (Y_subI rfl rfl) rfl rfl rfl ?_
                obtain ⟨x78, hx78, ho69⟩ := Option.bind_eq_some_iff.1 ho69
                refine V_indexAddr h_l hx78 Tryd.underlying43 Tryd.sizeOf89 rfl rfl rfl ?_
                intro b79 o80 h81
                obtain ⟨h82, _⟩ := El_cal_Shift h81
                refine V_y (Y_loadA h82 Tryd.isAgg89 Tryd.sizeOf89 rfl) rfl rfl rfl ?_
                refine V_alloc Tryd.zeroValue89 rfl ?_
                intro b83 w84 h85
                refine V_storeNew h85 Tryd.sizeOf89 rfl rfl rfl rfl (by exact (List.forall_mem_cons.2 ⟨rfl, (List.forall_mem_cons.2 ⟨rfl, (List.forall_mem_cons.2 ⟨rfl, (fun _ h => nomatch h)⟩)⟩)⟩)) ?_
                intro w86 h87
                have hk89 := h87.kp (Dw := Dw)
                have h88 : El (α := cal_Shift) A14 w86 b83 0 x78 := h87.el hA ⟨[.int .i64 x78.day], _, rfl, rfl, ⟨[.int .i64 x78.from_], _, rfl, rfl, rfl⟩⟩
                have ht90 := Kp.tr (Dw := Dw) hk89 hA hB
                replace hH := Hp.kp (Dw := Dw) hH hk89
                replace h_l := Sl.tr (Dw := Dw) h_l ht90
                replace h43 := El.tr (Dw := Dw) h43 ht90
                replace h81 := El.tr (Dw := Dw) h81 ht90
                replace hK := Tr.trans (Dw := Dw) hK ht90
                replace hr5 := Tr.trans (Dw := Dw) hr5 ht90
                replace hr27 := Tr.trans (Dw := Dw) hr27 ht90
                replace hr71 := Tr.trans (Dw := Dw) hr71 ht90
                replace hB := Nat.le_trans hB ht90.ex.size
                replace hA := ht90.new
                refine V_to (fun _ _ => rfl) ?_
                refine C_seq ?_
                refine C_region_qt (Dw := Dw) 15 Tryd_mixed (by kernel_rfl) ?_
                simp only [List.take, List.drop]
                have h91 := El_cal_Shift_0 h88
                refine VQ_y (fun w' hw' => Y_fieldAddr Tryd.underlying89 rfl Tryd.sizeOf3 (by decide) rfl) rfl rfl rfl ?_
                refine VQ_y (fun w' hw' => Y_load (El.int (El.kp (Dw := Dw) h91 hw')) Tryd.isAgg3 rfl) rfl rfl rfl ?_
                have h92 := El_cal_Shift_0 h43
                refine VQ_y (fun w' hw' => Y_fieldAddr Tryd.underlying89 rfl Tryd.sizeOf3 (by decide) rfl) rfl rfl rfl ?_
                refine VQ_y (fun w' hw' => Y_load (El.int (El.kp (Dw := Dw) h92 hw')) Tryd.isAgg3 rfl) rfl rfl rfl ?_
                refine VQ_call (.int .i64 (cmp_Compare_int x78.day x33.day)) Tryd.call59 rfl rfl rfl rfl (fun w' hw' => (cmp_Compare_int_c w' x78.day x33.day).mono (fun _ _ h => ⟨h.1, h.2 ▸ hw'⟩)) ?_
                have h93 := El_cal_Shift_1 h88
                refine VQ_y (fun w' hw' => Y_fieldAddr Tryd.underlying89 rfl Tryd.sizeOf3 (by decide) rfl) rfl rfl rfl ?_
                refine VQ_y (fun w' hw' => Y_load (El.int (El.kp (Dw := Dw) h93 hw')) Tryd.isAgg3 rfl) rfl rfl rfl ?_
                have h94 := El_cal_Shift_1 h43
                refine VQ_y (fun w' hw' => Y_fieldAddr Tryd.underlying89 rfl Tryd.sizeOf3 (by decide) rfl) rfl rfl rfl ?_
                refine VQ_y (fun w' hw' => Y_load (El.int (El.kp (Dw := Dw) h94 hw')) Tryd.isAgg3 rfl) rfl rfl rfl ?_
                refine VQ_call (.int .i64 (cmp_Compare_int x78.from_ x33.from_)) Tryd.call59 rfl rfl rfl rfl (fun w' hw' => (cmp_Compare_int_c w' x78.from_ x33.from_).mono (fun _ _ h => ⟨h.1, h.2 ▸ hw'⟩)) ?_
                have h95 := El_cal_Shift_2 h88
                refine VQ_y (fun w' hw' => Y_fieldAddr Tryd.underlying89 rfl Tryd.sizeOf3 (by decide) rfl) rfl rfl rfl ?_
                refine VQ_y (fun w' hw' => Y_load (El.int (El.kp (Dw := Dw) h95 hw')) Tryd.isAgg3 rfl) rfl rfl rfl ?_
                have h96 := El_cal_Shift_2 h43
                refine VQ_y (fun w' hw' => Y_fieldAddr Tryd.underlying89 rfl Tryd.sizeOf3 (by decide) rfl) rfl rfl rfl ?_
                refine VQ_y (fun w' hw' => Y_load (El.int (El.kp (Dw := Dw) h96 hw')) Tryd.isAgg3 rfl) rfl rfl rfl ?_
                refine VQ_call (.int .i64 (cmp_Compare_int x78.to_ x33.to_)) Tryd.call59 rfl rfl rfl rfl (fun w' hw' => (cmp_Compare_int_c w' x78.to_ x33.to_).mono (fun _ _ h => ⟨h.1, h.2 ▸ hw'⟩)) ?_
                refine VQ_tail (fun w97 hk98 => ?_)
                try simp only [List.take, List.drop]
                have ht99 := Kp.tr (Dw := Dw) hk98 hA hB
                replace hH := Hp.kp (Dw := Dw) hH hk98
                replace h_l := Sl.tr (Dw := Dw) h_l ht99
                replace h43 := El.tr (Dw := Dw) h43 ht99
                replace h88 := El.tr (Dw := Dw) h88 ht99
                replace h91 := El.tr (Dw := Dw) h91 ht99
                replace h92 := El.tr (Dw := Dw) h92 ht99
                replace h93 := El.tr (Dw := Dw) h93 ht99
                replace h94 := El.tr (Dw := Dw) h94 ht99
                replace h95 := El.tr (Dw := Dw) h95 ht99
                replace h96 := El.tr (Dw := Dw) h96 ht99
                replace hK := Tr.trans (Dw := Dw) hK ht99
                replace hr5 := Tr.trans (Dw := Dw) hr5 ht99
                replace hr27 := Tr.trans (Dw := Dw) hr27 ht99
                replace hr71 := Tr.trans (Dw := Dw) hr71 ht99
                replace hB := Nat.le_trans hB ht99.ex.size
                replace hA := ht99.new
                refine V_buildSlice (Dw := Dw) (cells := #[.int .i64 (cmp_Compare_int x78.day x33.day), .int .i64 (cmp_Compare_int x78.from_ x33.from_), .int .i64 (cmp_Compare_int x78.to_ x33.to_)]) (l := ([(cmp_Compare_int x78.day x33.day), (cmp_Compare_int x78.from_ x33.from_), (cmp_Compare_int x78.to_ x33.to_)] : List Int)) (len := 3) Tryd.underlying24 Tryd.sizeOf3 Tryd.zeroValue3 rfl (by generalize ((cmp_Compare_int x78.from_ x33.from_) : Int) = z104; generalize ((cmp_Compare_int x78.day x33.day) : Int) = z105; generalize ((cmp_Compare_int x78.to_ x33.to_) : Int) = z106; kernel_rfl) (show (3 * 1 : Nat) ≠ 0 by decide) (show (3 * 1 : Nat) ≤ 2 ^ 24 by decide) hA ⟨[.int .i64 (cmp_Compare_int x78.day x33.day)], _, rfl, rfl, ⟨[.int .i64 (cmp_Compare_int x78.from_ x33.from_)], _, rfl, rfl, ⟨[.int .i64 (cmp_Compare_int x78.to_ x33.to_)], _, rfl, rfl, rfl⟩⟩⟩ rfl rfl ?_
                intro v100 w101 hk103 h102
                have ht107 := Kp.tr (Dw := Dw) hk103 hA hB
                replace hH := Hp.kp (Dw := Dw) hH hk103
                replace h_l := Sl.tr (Dw := Dw) h_l ht107
                replace h43 := El.tr (Dw := Dw) h43 ht107
                replace h88 := El.tr (Dw := Dw) h88 ht107
                replace h91 := El.tr (Dw := Dw) h91 ht107
                replace h92 := El.tr (Dw := Dw) h92 ht107
                replace h93 := El.tr (Dw := Dw) h93 ht107
                replace h94 := El.tr (Dw := Dw) h94 ht107
                replace h95 := El.tr (Dw := Dw) h95 ht107
                replace h96 := El.tr (Dw := Dw) h96 ht107
                replace hK := Tr.trans (Dw := Dw) hK ht107
                replace hr5 := Tr.trans (Dw := Dw) hr5 ht107
                replace hr27 := Tr.trans (Dw := Dw) hr27 ht107
                replace hr71 := Tr.trans (Dw := Dw) hr71 ht107
                replace hB := Nat.le_trans hB ht107.ex.size
                replace hA := ht107.new
                obtain ⟨x108, hx108, ho69⟩ := Option.bind_eq_some_iff.1 ho69
                refine V_call Tryd.call58 rfl rfl rfl rfl (cmp_Or_int_c w101 ([(cmp_Compare_int x78.day x33.day), (cmp_Compare_int x78.from_ x33.from_), (cmp_Compare_int x78.to_ x33.to_)] : List Int) v100 h102 hx108) ?_
                rintro _ _ ⟨rfl, rfl⟩
                refine V_y (Y_geq rfl rfl) rfl rfl rfl ?_
                refine V_to (fun _ _ => rfl) ?_
                refine C_cond rfl (fun hc109 => ?_) (fun hc109 => ?_)
                · rw [if_pos hc109] at ho69
                  refine C_seq ?_
                  refine C_region ?_
                  refine V_y (Y_assign rfl) rfl rfl rfl ?_
                  refine V_to (fun _ _ => rfl) ?_
                  obtain rfl := Option.some.inj ho69
                  rw [Lp.andThen_rt] at ho25
                  obtain rfl := Option.some.inj ho25
                  rw [Lp.andThen_rt] at h17
                  obtain rfl := Option.some.inj h17
                  obtain rfl := (h18 : Lp.rt _ = _)
                  rw [Lp.andThen_rt] at hm
                  obtain rfl := Option.some.inj hm
                  refine C_ret ?_
                  try simp only [↓inBlock_ret, ↓then_ret]
                  exact retQ rfl (Res.one Tryd.results54 rfl) ⟨rfl, hK.kp⟩
                · rw [if_neg (nt hc109)] at ho69
                  obtain rfl := Option.some.inj ho69
                  refine C_skip (fun a ha110 => ?_)
                  exact ⟨((), A14), ha110.sub ⟨rfl, rfl, rfl, rfl, rfl, trivial⟩, ⟨rfl, hH, hr71⟩⟩
              · rw [if_neg (nt hc77)] at ho69
                obtain rfl := Option.some.inj ho69
                refine C_skip (fun a ha111 => ?_)
                exact ⟨((), A14), ha111.sub ⟨rfl, rfl, rfl, rfl, rfl, trivial⟩, ⟨rfl, hH, hr71⟩⟩
            rintro ⟨s70, A75⟩ w72 ⟨rfl, hH76, hk73⟩ a ha74
            rw [Lp.andThen_fin] at ho25
            replace h_l := Sl.tr (Dw := Dw) h_l hk73
            replace hK := Tr.trans (Dw := Dw) hK hk73
            replace hr5 := Tr.trans (Dw := Dw) hr5 hk73
            replace hr27 := Tr.trans (Dw := Dw) hr27 hk73
            replace hB := Nat.le_trans hB hk73.ex.size
            replace hA := hk73.new
            replace hH : Hp w.heap.size A75 w72 ([]) := hH76
            obtain rfl := Option.some.inj ho25
            exact ⟨((), A75), ha74.sub ⟨rfl, rfl, rfl, rfl, rfl, trivial⟩, ⟨rfl, hH, hr27⟩⟩
      rintro ⟨s26, A31⟩ w28 ⟨rfl, hH32, hk29⟩ a ha30
      rw [Lp.andThen_fin] at h17
      replace h_l := Sl.tr (Dw := Dw) h_l hk29
      replace hK := Tr.trans (Dw := Dw) hK hk29
      replace hr5 := Tr.trans (Dw := Dw) hr5 hk29
      replace hB := Nat.le_trans hB hk29.ex.size
      replace hA := hk29.new
      replace hH : Hp w.heap.size A31 w28 ([]) := hH32
      refine C_at (n := ⟨81, [], none⟩) (fun _ _ => rfl) ?_ ha30
      refine C_region ?_
      refine V_y (Y_addI rfl rfl) rfl rfl rfl ?_
      refine V_y (Y_move rfl) rfl rfl rfl ?_
      obtain rfl := Option.some.inj h17
      refine V_end (fun a ha113 => ?_)
      exact ⟨(), hlt20, h18, ⟨A31, ha113.sub ⟨rfl, rfl, rfl, rfl, (congrArg (fun z => some (Value.int .i64 z)) (w64_succ hlt20 hn23)), trivial⟩, ⟨hH, hr5⟩⟩⟩
    · refine C_exit (fun a ha114 => ?_)
      exact ⟨((), A14), ha114.sub trivial, ⟨(h21 (eq_of_dec hle19 hc24)).symm, hH, hr5⟩⟩
  rintro ⟨s4, A10⟩ w7 ⟨rfl, hH11, hk8⟩ a ha9
  rw [Lp.andThen_fin] at hm
  replace hK := Tr.trans (Dw := Dw) hK hk8
  replace hB := Nat.le_trans hB hk8.ex.size
  replace hA := hk8.new
  replace hH : Hp w.heap.size A10 w7 ([]) := hH11
  refine C_at (n := ⟨81, [], none⟩) (fun _ _ => rfl) ?_ ha9
  refine C_seq ?_
  refine C_region ?_
  refine V_y (Y_assign rfl) rfl rfl rfl ?_
  refine V_to (fun _ _ => rfl) ?_
  obtain rfl := Option.some.inj hm
  refine C_ret ?_
  try simp only [↓inBlock_ret, ↓then_ret]
  exact retQ rfl (Res.one Tryd.results54 rfl) ⟨rfl, hK.kp⟩

set_option maxRecDepth 4000 in
set_option maxHeartbeats 4000000 in
theorem portref2_CalendarFault_c (w : World) {A : Nat → Prop} (hA : ∀ b, w.heap.size ≤ b → A b) (c : cal_Calendar) (v_c0 : Value) (h_c0 : Sl A w v_c0 c.zone.changes) (v_c1 : Value) (h_c1 : Sl A w v_c1 c.week) (v_c2 : Value) (h_c2 : Sl A w v_c2 c.specials) {r : Int} (hm : portref2_CalendarFault c = some r) : Ret Tryd.prog 41 #[.agg #[.int .i64 c.zone.offset, v_c0, v_c1, v_c2]] w fun v w' => v = .int .i64 r ∧ Kp Dw w w' := by
  unfold portref2_CalendarFault at hm
  refine enter Tryd.func41 rfl Tryd.ntmps41 rfl ?_
  have hA0 := hA
  have hB := Nat.le_refl w.heap.size
  have hK : Tr Dw w.heap.size A w A w := Tr.refl (Dw := Dw) hA
  have hH : Hp w.heap.size A w [] := Hp.nil
  refine C_seq ?_
  refine C_region ?_
  refine V_box rfl rfl ?_
  intro b7 w9 h10
  have hk12 := h10.kp (Dw := Dw)
  have h11 : El (α := cal_Calendar) A w9 b7 0 c := h10.el hA ⟨[.int .i64 c.zone.offset, v_c0], _, rfl, ⟨[.int .i64 c.zone.offset], _, rfl, rfl, ⟨_, rfl, h_c0⟩⟩, ⟨[v_c1], _, rfl, ⟨_, rfl, h_c1⟩, ⟨_, rfl, h_c2⟩⟩⟩
  have ht13 := Kp.tr (Dw := Dw) hk12 hA hB
  replace hH := Hp.kp (Dw := Dw) hH hk12
  replace h_c0 := Sl.tr (Dw := Dw) h_c0 ht13
  replace h_c1 := Sl.tr (Dw := Dw) h_c1 ht13
  replace h_c2 := Sl.tr (Dw := Dw) h_c2 ht13
  replace hK := Tr.trans (Dw := Dw) hK ht13
  replace hB := Nat.le_trans hB ht13.ex.size
  replace hA := ht13.new
  refine V_y (Y_assign rfl) rfl rfl rfl ?_
  refine V_to (fun _ _ => rfl) ?_
  refine C_seq ?_
  refine C_seq ?_
  refine C_region ?_
  have h14 := El_cal_Calendar_0 h11
  refine V_y (Y_fieldAddr Tryd.underlying46 rfl Tryd.sizeOf42 (by decide) rfl) rfl rfl rfl ?_
  obtain ⟨v15, h17, h16⟩ := El_cal_Zone h14
  refine V_y (Y_loadA h17 Tryd.isAgg42 Tryd.sizeOf42 rfl) rfl rfl rfl ?_
  obtain ⟨x18, hx18, hm⟩ := Option.bind_eq_some_iff.1 hm
  refine V_call Tryd.call53 rfl rfl rfl rfl (portref2_ZoneFault_c (Dw := Dw) w9 hA c.zone v15 h16 hx18) ?_
  rintro _ w19 ⟨rfl, hk20⟩
  have ht21 := Kp.tr (Dw := Dw) hk20 hA hB
  replace hH := Hp.kp (Dw := Dw) hH hk20
  replace h11 := El.tr (Dw := Dw) h11 ht21
  replace h14 := El.tr (Dw := Dw) h14 ht21
  replace h16 := Sl.tr (Dw := Dw) h16 ht21
  replace hK := Tr.trans (Dw := Dw) hK ht21
  replace hB := Nat.le_trans hB ht21.ex.size
  replace hA := ht21.new
  refine V_y (Y_assign rfl) rfl rfl rfl ?_
  refine V_to (fun _ _ => rfl) ?_
  refine C_seq ?_
  refine C_region ?_
  refine V_y (Y_move rfl) rfl rfl rfl ?_
  refine V_y (Y_neq rfl rfl) rfl rfl rfl ?_
  refine V_to (fun _ _ => rfl) ?_
  refine C_cond rfl (fun hc22 => ?_) (fun hc22 => ?_)
  · rw [if_pos hc22] at hm
    refine C_seq ?_
    refine C_region ?_
    refine V_y (Y_move rfl) rfl rfl rfl ?_
    refine V_y (Y_assign rfl) rfl rfl rfl ?_
    refine V_to (fun _ _ => rfl) ?_
    obtain rfl := Option.some.inj hm
    refine C_ret ?_
    try simp only [↓inBlock_ret, ↓then_ret]
    exact retQ rfl (Res.one Tryd.results41 rfl) ⟨rfl, hK.kp⟩
  · rw [if_neg (nt hc22)] at hm
    refine C_skip_to (fun _ _ => rfl) ?_
    refine C_seq ?_
    refine C_seq ?_
    refine C_region ?_
    have h23 := El_cal_Calendar_1 h11
    refine V_y (Y_fieldAddr Tryd.underlying46 rfl Tryd.sizeOf43 (by decide) rfl) rfl rfl rfl ?_
    obtain ⟨v24, h25, h26⟩ := El.list h23
    refine V_y (Y_load h25 Tryd.isAgg43 rfl) rfl rfl rfl ?_
    refine V_y (Y_lenSl h26 rfl Tryd.underlying43 rfl) rfl rfl rfl ?_
    refine V_y (Y_gtr rfl rfl) rfl rfl rfl ?_
    refine V_y (Y_move rfl) rfl rfl rfl ?_
    refine V_cut 5 (fun _ : Unit => [(1, .pointer (some ⟨b7, 0, none⟩)), (23, .bool ((decide ((60 : Int) < (c.week.length : Int))) || (decide ((200 : Int) < (c.specials.length : Int)))))]) (fun _ w' => w19 = w') ?_ ?_
    · simp only [List.take, List.drop]
      rcases Bool.eq_false_or_eq_true (decide ((60 : Int) < (c.week.length : Int))) with hc27 | hc27
      · refine V_gn rfl rfl rfl hc27 rfl rfl rfl ?_
        refine V_gn rfl rfl rfl hc27 rfl rfl rfl ?_
        refine V_gn rfl rfl rfl hc27 rfl rfl rfl ?_
        refine V_gn rfl rfl rfl hc27 rfl rfl rfl ?_
        refine V_y (Y_pick_te rfl hc27 rfl) rfl rfl rfl ?_
        exact V_end fun a ha => ⟨(), ha.sub ⟨rfl, (by rw [hc27]; rfl), trivial⟩, rfl⟩
      · refine V_ge rfl rfl rfl hc27 ?_
        have h29 := El_cal_Calendar_2 h11
        refine V_y (Y_fieldAddr Tryd.underlying46 rfl Tryd.sizeOf44 (by decide) rfl) rfl rfl rfl ?_
        refine V_ge rfl rfl rfl hc27 ?_
        obtain ⟨v30, h31, h32⟩ := El.list h29
        refine V_y (Y_load h31 Tryd.isAgg44 rfl) rfl rfl rfl ?_
        refine V_ge rfl rfl rfl hc27 ?_
        refine V_y (Y_lenSl h32 rfl Tryd.underlying44 rfl) rfl rfl rfl ?_
        refine V_ge rfl rfl rfl hc27 ?_
        refine V_y (Y_gtr rfl rfl) rfl rfl rfl ?_
        refine V_y (Y_pick_fe rfl hc27 rfl) rfl rfl rfl ?_
        exact V_end fun a ha => ⟨(), ha.sub ⟨rfl, (by rw [hc27]; rfl), trivial⟩, rfl⟩
    simp only [List.take, List.drop]
    rintro _ _ rfl
    refine V_to (fun _ _ => rfl) ?_
    refine C_cond rfl (fun hc33 => ?_) (fun hc33 => ?_)
    · rw [if_pos hc33] at hm
      refine C_seq ?_
      refine C_region ?_
      refine V_y (Y_assign rfl) rfl rfl rfl ?_
      refine V_to (fun _ _ => rfl) ?_
      obtain rfl := Option.some.inj hm
      refine C_ret ?_
      try simp only [↓inBlock_ret, ↓then_ret]
      exact retQ rfl (Res.one Tryd.results41 rfl) ⟨rfl, hK.kp⟩
    · rw [if_neg (nt hc33)] at hm
      refine C_skip_to (fun _ _ => rfl) ?_
      refine C_seq ?_
      refine C_seq ?_
      refine C_region ?_
      have h34 := El_cal_Calendar_1 h11
      refine V_y (Y_fieldAddr Tryd.underlying46 rfl Tryd.sizeOf43 (by decide) rfl) rfl rfl rfl ?_
      obtain ⟨v35, h36, h37⟩ := El.list h34
      refine V_y (Y_load h36 Tryd.isAgg43 rfl) rfl rfl rfl ?_
      obtain ⟨x38, hx38, hm⟩ := Option.bind_eq_some_iff.1 hm
      refine V_call Tryd.call54 rfl rfl rfl rfl (portref2_shiftFault_c (Dw := Dw) w19 hA c.week v35 h37 true hx38) ?_
      rintro _ w39 ⟨rfl, hk40⟩
      have ht41 := Kp.tr (Dw := Dw) hk40 hA hB
      replace hH := Hp.kp (Dw := Dw) hH hk40
      replace h11 := El.tr (Dw := Dw) h11 ht41
      replace h34 := El.tr (Dw := Dw) h34 ht41
      replace h37 := Sl.tr (Dw := Dw) h37 ht41
      replace hK := Tr.trans (Dw := Dw) hK ht41
      replace hB := Nat.le_trans hB ht41.ex.size
      replace hA := ht41.new
      refine V_y (Y_assign rfl) rfl rfl rfl ?_
      refine V_to (fun _ _ => rfl) ?_
      refine C_seq ?_
      refine C_region ?_
      refine V_y (Y_move rfl) rfl rfl rfl ?_
      refine V_y (Y_neq rfl rfl) rfl rfl rfl ?_
      refine V_to (fun _ _ => rfl) ?_
      refine C_cond rfl (fun hc42 => ?_) (fun hc42 => ?_)
      · rw [if_pos hc42] at hm
        refine C_seq ?_
        refine C_region ?_
        refine V_y (Y_move rfl) rfl rfl rfl ?_
        refine V_y (Y_assign rfl) rfl rfl rfl ?_
        refine V_to (fun _ _ => rfl) ?_
        obtain rfl := Option.some.inj hm
        refine C_ret ?_
        try simp only [↓inBlock_ret, ↓then_ret]
        exact retQ rfl (Res.one Tryd.results41 rfl) ⟨rfl, hK.kp⟩
      · rw [if_neg (nt hc42)] at hm
        refine C_skip_to (fun _ _ => rfl) ?_
        refine C_seq ?_
        refine C_seq ?_
        refine C_region ?_
        have h43 := El_cal_Calendar_2 h11
        refine V_y (Y_fieldAddr Tryd.underlying46 rfl Tryd.sizeOf44 (by decide) rfl) rfl rfl rfl ?_
        obtain ⟨v44, h45, h46⟩ := El.list h43
        refine V_y (Y_load h45 Tryd.isAgg44 rfl) rfl rfl rfl ?_
        refine V_y (Y_lenSl h46 rfl Tryd.underlying44 rfl) rfl rfl rfl ?_
        refine V_y (Y_move rfl) rfl rfl rfl ?_
        refine V_to (fun _ _ => rfl) ?_
        have hn67 := Sl.le h46
        obtain ⟨o47, ho47, hm⟩ := Option.bind_eq_some_iff.1 hm
        refine C_cutG (ι := (Unit × (Nat → Prop))) (fun ⟨s48, A54⟩ => []) (fun ⟨s48, A54⟩ => fun w' => o47 = .fin s48 ∧ Hp w.heap.size A54 w' ([]) ∧ Tr Dw w.heap.size A w39 A54 w') ?_ ?_
        · refine C_block ?_
          refine C_range ho47 (fun k50 _ a w' => ∃ i : (Nat → Prop), Has ⟨74, [], none⟩ a ([(1, .pointer (some ⟨b7, 0, none⟩)), (31, v44), (32, .int .i64 (c.specials.length : Int)), (33, .int .i64 (k50 : Int))]) ∧ Hp w.heap.size i w' ([]) ∧ Tr Dw w.heap.size A w39 i w') (fun a ha => ⟨A, ha.sub ⟨rfl, rfl, rfl, rfl, trivial⟩, ⟨hH, Tr.refl (Dw := Dw) hA⟩⟩) ?_
          rintro K k50 _ a w57 ⟨A58, ha124, hH59, hr49⟩ hle63 K66 h65
          refine C_of ?_ ha124
          replace h11 := El.tr (Dw := Dw) h11 hr49
          replace h46 := Sl.tr (Dw := Dw) h46 hr49
          replace hK := Tr.trans (Dw := Dw) hK hr49
          replace hB := Nat.le_trans hB hr49.ex.size
          replace hA := hr49.new
          replace hH : Hp w.heap.size A58 w57 ([]) := hH59
          refine C_seq (C_region (V_y (Y_lss rfl rfl) rfl rfl rfl (V_to (fun _ _ => rfl) ?_)))
          refine C_seq ?_
          refine C_cond rfl (fun hc68 => ?_) (fun hc68 => ?_)
          · have hlt64 := lt_of_dec hc68
            obtain ⟨x60, h61, h62⟩ := K66 hlt64
            refine C_skip_to (fun _ _ => rfl) ?_
            refine C_seq ?_
            refine C_block ?_
            refine C_seq ?_
            refine C_region ?_
            refine V_y (Y_move rfl) rfl rfl rfl ?_
            obtain ⟨x69, hx69, h61⟩ := Option.bind_eq_some_iff.1 h61
            refine V_indexAddr h46 hx69 Tryd.underlying44 Tryd.sizeOf77 rfl rfl rfl ?_
            intro b70 o71 h72
            obtain ⟨v73, h75, h74⟩ := El_cal_Special h72
            refine V_y (Y_loadA h75 Tryd.isAgg77 Tryd.sizeOf77 rfl) rfl rfl rfl ?_
            refine V_alloc Tryd.zeroValue77 rfl ?_
            intro b76 w77 h78
            refine V_y (Y_assign rfl) rfl rfl rfl ?_
            have h83 : (v73).oneCell' = true := by obtain ⟨_, _, e, _⟩ := Sl.form h74; rw [e]; rfl
            refine V_storeNew h78 Tryd.sizeOf77 rfl rfl rfl rfl (by exact (List.forall_mem_cons.2 ⟨rfl, (List.forall_mem_cons.2 ⟨h83, (fun _ h => nomatch h)⟩)⟩)) ?_
            intro w79 h80
            have hk85 := h80.kp (Dw := Dw)
            have h84 : El (α := cal_Special) A58 w79 b76 0 x69 := h80.el hA ⟨[.int .i64 x69.day], _, rfl, rfl, ⟨_, rfl, h74⟩⟩
            have ht86 := Kp.tr (Dw := Dw) hk85 hA hB
            replace hH := Hp.kp (Dw := Dw) hH hk85
            replace h11 := El.tr (Dw := Dw) h11 ht86
            replace h46 := Sl.tr (Dw := Dw) h46 ht86
            replace h72 := El.tr (Dw := Dw) h72 ht86
            replace h74 := Sl.tr (Dw := Dw) h74 ht86
            replace hK := Tr.trans (Dw := Dw) hK ht86
            replace hr49 := Tr.trans (Dw := Dw) hr49 ht86
            replace hB := Nat.le_trans hB ht86.ex.size
            replace hA := ht86.new
            refine V_to (fun _ _ => rfl) ?_
            refine C_seq ?_
            refine C_block ?_
            refine C_seq ?_
            refine C_region ?_
            have h87 := El_cal_Special_0 h84
            refine V_y (Y_fieldAddr Tryd.underlying77 rfl Tryd.sizeOf3 (by decide) rfl) rfl rfl rfl ?_
            refine V_y (Y_load (El.int h87) Tryd.isAgg3 rfl) rfl rfl rfl ?_
            refine V_y (Y_lss rfl rfl) rfl rfl rfl ?_
            refine V_y (Y_move rfl) rfl rfl rfl ?_
            refine V_cut 4 (fun _ : Unit => [(1, .pointer (some ⟨b7, 0, none⟩)), (5, .int .i64 (k50 : Int)), (6, .pointer (some ⟨b76, 0, none⟩)), (31, v44), (32, .int .i64 (c.specials.length : Int)), (33, .int .i64 (k50 : Int)), (46, .bool ((decide (x69.day < (-1))) || (decide ((2084 : Int) < x69.day))))]) (fun _ w' => w79 = w') ?_ ?_
            · simp only [List.take, List.drop]
              rcases Bool.eq_false_or_eq_true (decide (x69.day < (-1))) with hc88 | hc88
              · refine V_gn rfl rfl rfl hc88 rfl rfl rfl ?_
                refine V_gn rfl rfl rfl hc88 rfl rfl rfl ?_
                refine V_gn rfl rfl rfl hc88 rfl rfl rfl ?_
                refine V_y (Y_pick_te rfl hc88 rfl) rfl rfl rfl ?_
                exact V_end fun a ha => ⟨(), ha.sub ⟨rfl, rfl, rfl, rfl, rfl, rfl, (by rw [hc88]; rfl), trivial⟩, rfl⟩
              · refine V_ge rfl rfl rfl hc88 ?_
                have h90 := El_cal_Special_0 h84
                refine V_y (Y_fieldAddr Tryd.underlying77 rfl Tryd.sizeOf3 (by decide) rfl) rfl rfl rfl ?_
                refine V_ge rfl rfl rfl hc88 ?_
                refine V_y (Y_load (El.int h90) Tryd.isAgg3 rfl) rfl rfl rfl ?_
                refine V_ge rfl rfl rfl hc88 ?_
                refine V_y (Y_gtr rfl rfl) rfl rfl rfl ?_
                refine V_y (Y_pick_fe rfl hc88 rfl) rfl rfl rfl ?_
                exact V_end fun a ha => ⟨(), ha.sub ⟨rfl, rfl, rfl, rfl, rfl, rfl, (by rw [hc88]; rfl), trivial⟩, rfl⟩
            simp only [List.take, List.drop]
            rintro _ _ rfl
            refine V_y (Y_assign rfl) rfl rfl rfl ?_
            refine V_to (fun _ _ => rfl) ?_
            refine C_cond rfl (fun hc91 => ?_) (fun hc91 => ?_)
            · rw [if_pos hc91] at h61
              refine C_seq ?_
              refine C_region ?_
              refine V_y (Y_assign rfl) rfl rfl rfl ?_
              refine V_to (fun _ _ => rfl) ?_
              obtain rfl := Option.some.inj h61
              obtain rfl := (h62 : Lp.rt _ = _)
              rw [Lp.andThen_rt] at hm
              obtain rfl := Option.some.inj hm
              refine C_ret ?_
              try simp only [↓inBlock_ret, ↓then_ret]
              exact retQ rfl (Res.one Tryd.results41 rfl) ⟨rfl, hK.kp⟩
            · rw [if_neg (nt hc91)] at h61
              refine C_seq ?_
              refine C_region_q (Dw := Dw) Tryd_mixed (by kernel_rfl) ?_
              refine VQ_y (fun w' hw' => Y_move rfl) rfl rfl rfl ?_
              refine VQ_y (fun w' hw' => Y_gtr rfl rfl) rfl rfl rfl ?_
              refine VQ_y (fun w' hw' => Y_move rfl) rfl rfl rfl ?_
              obtain ⟨s93, hs93, h61⟩ := Option.bind_eq_some_iff.1 h61
              refine VQ_cut 11 (fun _ : Unit => [(1, .pointer (some ⟨b7, 0, none⟩)), (6, .pointer (some ⟨b76, 0, none⟩)), (31, v44), (32, .int .i64 (c.specials.length : Int)), (33, .int .i64 (k50 : Int)), (61, .bool s93)]) (fun _ => True) ?_ ?_
              · simp only [List.take, List.drop]
                rcases Bool.eq_false_or_eq_true (decide ((0 : Int) < (k50 : Int))) with hc92 | hc92
                · rw [if_pos hc92] at hs93
                  refine VQ_ge rfl rfl rfl hc92 ?_
                  have h94 := El_cal_Special_0 h84
                  refine VQ_y (fun w' hw' => Y_fieldAddr Tryd.underlying77 rfl Tryd.sizeOf3 (by decide) rfl) rfl rfl rfl ?_
                  refine VQ_ge rfl rfl rfl hc92 ?_
                  refine VQ_y (fun w' hw' => Y_load (El.int (El.kp (Dw := Dw) h94 hw')) Tryd.isAgg3 rfl) rfl rfl rfl ?_
                  refine VQ_ge rfl rfl rfl hc92 ?_
                  have h95 := El_cal_Calendar_2 h11
                  refine VQ_y (fun w' hw' => Y_fieldAddr Tryd.underlying46 rfl Tryd.sizeOf44 (by decide) rfl) rfl rfl rfl ?_
                  refine VQ_ge rfl rfl rfl hc92 ?_
                  obtain ⟨v96, h97, h98⟩ := El.list h95
                  refine VQ_y (fun w' hw' => Y_load ((World.cell?_of_block (hw'.block _ (World.block_lt_of_cell? _ _ h97))).trans h97) Tryd.isAgg44 rfl) rfl rfl rfl ?_
                  refine VQ_ge rfl rfl rfl hc92 ?_
                  refine VQ_y (fun w' hw' => Y_move rfl) rfl rfl rfl ?_
                  refine VQ_ge rfl rfl rfl hc92 ?_
                  refine VQ_y (fun w' hw' => Y_subI rfl rfl) rfl rfl rfl ?_
                  refine VQ_ge rfl rfl rfl hc92 ?_
                  obtain ⟨x99, hx99, hs93⟩ := Option.bind_eq_some_iff.1 hs93
                  refine VQ_indexAddr h98 hx99 Tryd.underlying44 Tryd.sizeOf77 rfl rfl rfl ?_
                  intro b100 o101 h102
                  refine VQ_ge rfl rfl rfl hc92 ?_
                  have h103 := El_cal_Special_0 h102
                  refine VQ_y (fun w' hw' => Y_fieldAddr Tryd.underlying77 rfl Tryd.sizeOf3 (by decide) rfl) rfl rfl rfl ?_
                  refine VQ_ge rfl rfl rfl hc92 ?_
                  refine VQ_y (fun w' hw' => Y_load (El.int (El.kp (Dw := Dw) h103 hw')) Tryd.isAgg3 rfl) rfl rfl rfl ?_
                  refine VQ_ge rfl rfl rfl hc92 ?_
                  refine VQ_y (fun w' hw' => Y_leq rfl rfl) rfl rfl rfl ?_
                  refine VQ_y (fun _ _ => Y_pick_te rfl hc92 rfl) rfl rfl rfl ?_
                  obtain rfl := Option.some.inj hs93
                  exact VQ_end fun a ha => ⟨(), ha.sub ⟨rfl, rfl, rfl, rfl, rfl, rfl, trivial⟩, trivial⟩
                · rw [if_neg (nt hc92)] at hs93
                  refine VQ_gn rfl rfl rfl hc92 rfl rfl rfl ?_
                  refine VQ_gn rfl rfl rfl hc92 rfl rfl rfl ?_
                  refine VQ_gn rfl rfl rfl hc92 rfl rfl rfl ?_
                  refine VQ_gn rfl rfl rfl hc92 rfl rfl rfl ?_
                  refine VQ_gn rfl rfl rfl hc92 rfl rfl rfl ?_
                  refine VQ_gn rfl rfl rfl hc92 rfl rfl rfl ?_
                  refine VQ_gn rfl rfl rfl hc92 rfl rfl rfl ?_
                  refine VQ_gn rfl rfl rfl hc92 rfl rfl rfl ?_
                  refine VQ_gn rfl rfl rfl hc92 rfl rfl rfl ?_
                  refine VQ_gn rfl rfl rfl hc92 rfl rfl rfl ?_
                  refine VQ_y (fun _ _ => Y_pick_fe rfl hc92 rfl) rfl rfl rfl ?_
                  obtain rfl := Option.some.inj hs93
                  exact VQ_end fun a ha => ⟨(), ha.sub ⟨rfl, rfl, rfl, rfl, rfl, rfl, trivial⟩, trivial⟩
              simp only [List.take, List.drop]
              rintro _ _
              refine VQ_y (fun w' hw' => Y_assign rfl) rfl rfl rfl ?_
              refine VQ_to (fun _ _ => rfl) (fun w104 hk105 => ?_)
              have ht106 := Kp.tr (Dw := Dw) hk105 hA hB
              replace hH := Hp.kp (Dw := Dw) hH hk105
              replace h11 := El.tr (Dw := Dw) h11 ht106
              replace h46 := Sl.tr (Dw := Dw) h46 ht106
              replace h84 := El.tr (Dw := Dw) h84 ht106
              replace hK := Tr.trans (Dw := Dw) hK ht106
              replace hr49 := Tr.trans (Dw := Dw) hr49 ht106
              replace hB := Nat.le_trans hB ht106.ex.size
              replace hA := ht106.new
              refine C_cond rfl (fun hc107 => ?_) (fun hc107 => ?_)
              · rw [if_pos hc107] at h61
                refine C_seq ?_
                refine C_region ?_
                refine V_y (Y_assign rfl) rfl rfl rfl ?_
                refine V_to (fun _ _ => rfl) ?_
                obtain rfl := Option.some.inj h61
                obtain rfl := (h62 : Lp.rt _ = _)
                rw [Lp.andThen_rt] at hm
                obtain rfl := Option.some.inj hm
                refine C_ret ?_
                try simp only [↓inBlock_ret, ↓then_ret]
                exact retQ rfl (Res.one Tryd.results41 rfl) ⟨rfl, hK.kp⟩
              · rw [if_neg (nt hc107)] at h61
                refine C_seq ?_
                refine C_region ?_
                have h108 := El_cal_Special_1 h84
                refine V_y (Y_fieldAddr Tryd.underlying77 rfl Tryd.sizeOf43 (by decide) rfl) rfl rfl rfl ?_
                obtain ⟨v109, h110, h111⟩ := El.list h108
                refine V_y (Y_load h110 Tryd.isAgg43 rfl) rfl rfl rfl ?_
                refine V_y (Y_lenSl h111 rfl Tryd.underlying43 rfl) rfl rfl rfl ?_
                refine V_y (Y_gtr rfl rfl) rfl rfl rfl ?_
                refine V_y (Y_assign rfl) rfl rfl rfl ?_
                refine V_to (fun _ _ => rfl) ?_
                refine C_cond rfl (fun hc112 => ?_) (fun hc112 => ?_)
                · rw [if_pos hc112] at h61
                  refine C_seq ?_
                  refine C_region ?_
                  refine V_y (Y_assign rfl) rfl rfl rfl ?_
                  refine V_to (fun _ _ => rfl) ?_
                  obtain rfl := Option.some.inj h61
                  obtain rfl := (h62 : Lp.rt _ = _)
                  rw [Lp.andThen_rt] at hm
                  obtain rfl := Option.some.inj hm
                  refine C_ret ?_
                  try simp only [↓inBlock_ret, ↓then_ret]
                  exact retQ rfl (Res.one Tryd.results41 rfl) ⟨rfl, hK.kp⟩
                · rw [if_neg (nt hc112)] at h61
                  refine C_skip_to (fun _ _ => rfl) ?_
                  refine C_seq ?_
                  refine C_region ?_
                  have h113 := El_cal_Special_1 h84
                  refine V_y (Y_fieldAddr Tryd.underlying77 rfl Tryd.sizeOf43 (by decide) rfl) rfl rfl rfl ?_
                  obtain ⟨v114, h115, h116⟩ := El.list h113
                  refine V_y (Y_load h115 Tryd.isAgg43 rfl) rfl rfl rfl ?_
                  obtain ⟨x117, hx117, h61⟩ := Option.bind_eq_some_iff.1 h61
                  refine V_call Tryd.call54 rfl rfl rfl rfl (portref2_shiftFault_c (Dw := Dw) w104 hA x69.shifts v114 h116 false hx117) ?_
                  rintro _ w118 ⟨rfl, hk119⟩
                  have ht120 := Kp.tr (Dw := Dw) hk119 hA hB
                  replace hH := Hp.kp (Dw := Dw) hH hk119
                  replace h11 := El.tr (Dw := Dw) h11 ht120
                  replace h46 := Sl.tr (Dw := Dw) h46 ht120
                  replace h84 := El.tr (Dw := Dw) h84 ht120
                  replace h113 := El.tr (Dw := Dw) h113 ht120
                  replace h116 := Sl.tr (Dw := Dw) h116 ht120
                  replace hK := Tr.trans (Dw := Dw) hK ht120
                  replace hr49 := Tr.trans (Dw := Dw) hr49 ht120
                  replace hB := Nat.le_trans hB ht120.ex.size
                  replace hA := ht120.new
                  refine V_y (Y_assign rfl) rfl rfl rfl ?_
                  refine V_to (fun _ _ => rfl) ?_
                  refine C_seq ?_
                  refine C_region ?_
                  refine V_y (Y_move rfl) rfl rfl rfl ?_
                  refine V_y (Y_neq rfl rfl) rfl rfl rfl ?_
                  refine V_to (fun _ _ => rfl) ?_
                  refine C_cond rfl (fun hc121 => ?_) (fun hc121 => ?_)
                  · rw [if_pos hc121] at h61
                    refine C_seq ?_
                    refine C_region ?_
                    refine V_y (Y_move rfl) rfl rfl rfl ?_
                    refine V_y (Y_assign rfl) rfl rfl rfl ?_
                    refine V_to (fun _ _ => rfl) ?_
                    obtain rfl := Option.some.inj h61
                    obtain rfl := (h62 : Lp.rt _ = _)
                    rw [Lp.andThen_rt] at hm
                    obtain rfl := Option.some.inj hm
                    refine C_ret ?_
                    try simp only [↓inBlock_ret, ↓then_ret]
                    exact retQ rfl (Res.one Tryd.results41 rfl) ⟨rfl, hK.kp⟩
                  · rw [if_neg (nt hc121)] at h61
                    refine C_skip_to (fun _ _ => rfl) ?_
                    refine C_region ?_
                    refine V_y (Y_addI rfl rfl) rfl rfl rfl ?_
                    refine V_y (Y_move rfl) rfl rfl rfl ?_
                    obtain rfl := Option.some.inj h61
                    refine V_end (fun a ha122 => ?_)
                    exact ⟨(), hlt64, h62, ⟨A58, ha122.sub ⟨rfl, rfl, rfl, (congrArg (fun z => some (Value.int .i64 z)) (w64_succ hlt64 hn67)), trivial⟩, ⟨hH, hr49⟩⟩⟩
          · refine C_exit (fun a ha123 => ?_)
            exact ⟨((), A58), ha123.sub trivial, ⟨(h65 (eq_of_dec hle63 hc68)).symm, hH, hr49⟩⟩
        rintro ⟨s48, A54⟩ w51 ⟨rfl, hH55, hk52⟩ a ha53
        rw [Lp.andThen_fin] at hm
        replace hK := Tr.trans (Dw := Dw) hK hk52
        replace hB := Nat.le_trans hB hk52.ex.size
        replace hA := hk52.new
        replace hH : Hp w.heap.size A54 w51 ([]) := hH55
        refine C_at (n := ⟨74, [], none⟩) (fun _ _ => rfl) ?_ ha53
        refine C_seq ?_
        refine C_region ?_
        refine V_y (Y_assign rfl) rfl rfl rfl ?_
        refine V_to (fun _ _ => rfl) ?_
        obtain rfl := Option.some.inj hm
        refine C_ret ?_
        try simp only [↓inBlock_ret, ↓then_ret]
        exact retQ rfl (Res.one Tryd.results41 rfl) ⟨rfl, hK.kp⟩

set_option maxRecDepth 4000 in
set_option maxHeartbeats 4000000 in
theorem portref2_CalsFault_c (w : World) {A : Nat → Prop} (hA : ∀ b, w.heap.size ≤ b → A b) (cals : (List cal_Calendar)) (v_cals : Value) (h_cals : Sl A w v_cals cals) (most : Int) {r : Int} (hm : portref2_CalsFault cals most = some r) : Ret Tryd.prog 27 #[v_cals, .int .i64 most] w fun v w' => v = .int .i64 r ∧ Kp Dw w w' := by
  unfold portref2_CalsFault at hm
  refine enter Tryd.func27 rfl Tryd.ntmps27 rfl ?_
  have hA0 := hA
  have hB := Nat.le_refl w.heap.size
  have hK : Tr Dw w.heap.size A w A w := Tr.refl (Dw := Dw) hA
  have hH : Hp w.heap.size A w [] := Hp.nil
  refine C_seq ?_
  refine C_region ?_
  refine V_y (Y_assign rfl) rfl rfl rfl ?_
  refine V_to (fun _ _ => rfl) ?_
  refine C_seq ?_
  refine C_seq ?_
  refine C_region ?_
  refine V_y (Y_move rfl) rfl rfl rfl ?_
  refine V_y (Y_lenSl h_cals rfl Tryd.underlying23 rfl) rfl rfl rfl ?_
  refine V_y (Y_move rfl) rfl rfl rfl ?_
  refine V_y (Y_gtr rfl rfl) rfl rfl rfl ?_
  refine V_to (fun _ _ => rfl) ?_
  refine C_cond rfl (fun hc3 => ?_) (fun hc3 => ?_)
  · rw [if_pos hc3] at hm
    refine C_seq ?_
    refine C_region ?_
    refine V_y (Y_assign rfl) rfl rfl rfl ?_
    refine V_to (fun _ _ => rfl) ?_
    obtain rfl := Option.some.inj hm
    refine C_ret ?_
    try simp only [↓inBlock_ret, ↓then_ret]
    exact retQ rfl (Res.one Tryd.results27 rfl) ⟨rfl, hK.kp⟩
  · rw [if_neg (nt hc3)] at hm
    refine C_skip_to (fun _ _ => rfl) ?_
    refine C_seq ?_
    refine C_seq ?_
    refine C_region ?_
    refine V_y (Y_move rfl) rfl rfl rfl ?_
    refine V_y (Y_lenSl h_cals rfl Tryd.underlying23 rfl) rfl rfl rfl ?_
    refine V_y (Y_move rfl) rfl rfl rfl ?_
    refine V_to (fun _ _ => rfl) ?_
    have hn25 := Sl.le h_cals
    obtain ⟨o4, ho4, hm⟩ := Option.bind_eq_some_iff.1 hm
    refine C_cutG (ι := (Unit × (Nat → Prop))) (fun ⟨s5, A12⟩ => []) (fun ⟨s5, A12⟩ => fun w' => o4 = .fin s5 ∧ Hp w.heap.size A12 w' ([]) ∧ Tr Dw w.heap.size A w A12 w') ?_ ?_
    · refine C_block ?_
      refine C_range ho4 (fun k7 _ a w' => ∃ i : (Nat → Prop), Has ⟨24, [], none⟩ a ([(12, v_cals), (13, .int .i64 (cals.length : Int)), (14, .int .i64 (k7 : Int))]) ∧ Hp w.heap.size i w' ([]) ∧ Tr Dw w.heap.size A w i w') (fun a ha => ⟨A, ha.sub ⟨rfl, rfl, rfl, trivial⟩, ⟨hH, Tr.refl (Dw := Dw) hA⟩⟩) ?_
      rintro K k7 _ a w15 ⟨A16, ha69, hH17, hr6⟩ hle21 K24 h23
      refine C_of ?_ ha69
      replace h_cals := Sl.tr (Dw := Dw) h_cals hr6
      replace hK := Tr.trans (Dw := Dw) hK hr6
      replace hB := Nat.le_trans hB hr6.ex.size
      replace hA := hr6.new
      replace hH : Hp w.heap.size A16 w15 ([]) := hH17
      refine C_seq (C_region (V_y (Y_lss rfl rfl) rfl rfl rfl (V_to (fun _ _ => rfl) ?_)))
      refine C_seq ?_
      refine C_cond rfl (fun hc26 => ?_) (fun hc26 => ?_)
      · have hlt22 := lt_of_dec hc26
        obtain ⟨x18, h19, h20⟩ := K24 hlt22
        refine C_skip_to (fun _ _ => rfl) ?_
        refine C_seq ?_
        refine C_block ?_
        refine C_seq ?_
        refine C_region ?_
        obtain ⟨x27, hx27, h19⟩ := Option.bind_eq_some_iff.1 h19
        refine V_indexAddr h_cals hx27 Tryd.underlying23 Tryd.sizeOf46 rfl rfl rfl ?_
        intro b28 o29 h30
        obtain ⟨v31, v33, v35, h37, h32, h34, h36⟩ := El_cal_Calendar h30
        refine V_y (Y_loadA h37 Tryd.isAgg46 Tryd.sizeOf46 rfl) rfl rfl rfl ?_
        refine V_alloc Tryd.zeroValue46 rfl ?_
        intro b38 w39 h40
        have h45 : (v31).oneCell' = true := by obtain ⟨_, _, e, _⟩ := Sl.form h32; rw [e]; rfl
        have h48 : (v33).oneCell' = true := by obtain ⟨_, _, e, _⟩ := Sl.form h34; rw [e]; rfl
        have h51 : (v35).oneCell' = true := by obtain ⟨_, _, e, _⟩ := Sl.form h36; rw [e]; rfl
        refine V_storeNew h40 Tryd.sizeOf46 rfl rfl rfl rfl (by exact (List.forall_mem_cons.2 ⟨rfl, (List.forall_mem_cons.2 ⟨h45, (List.forall_mem_cons.2 ⟨h48, (List.forall_mem_cons.2 ⟨h51, (fun _ h => nomatch h)⟩)⟩)⟩)⟩)) ?_
        intro w41 h42
        have hk53 := h42.kp (Dw := Dw)
        have h52 : El (α := cal_Calendar) A16 w41 b38 0 x27 := h42.el hA ⟨[.int .i64 x27.zone.offset, v31], _, rfl, ⟨[.int .i64 x27.zone.offset], _, rfl, rfl, ⟨_, rfl, h32⟩⟩, ⟨[v33], _, rfl, ⟨_, rfl, h34⟩, ⟨_, rfl, h36⟩⟩⟩
        have ht54 := Kp.tr (Dw := Dw) hk53 hA hB
        replace hH := Hp.kp (Dw := Dw) hH hk53
        replace h_cals := Sl.tr (Dw := Dw) h_cals ht54
        replace h30 := El.tr (Dw := Dw) h30 ht54
        replace h32 := Sl.tr (Dw := Dw) h32 ht54
        replace h34 := Sl.tr (Dw := Dw) h34 ht54
        replace h36 := Sl.tr (Dw := Dw) h36 ht54
        replace hK := Tr.trans (Dw := Dw) hK ht54
        replace hr6 := Tr.trans (Dw := Dw) hr6 ht54
        replace hB := Nat.le_trans hB ht54.ex.size
        replace hA := ht54.new
        refine V_to (fun _ _ => rfl) ?_
        refine C_seq ?_
        refine C_region ?_
        obtain ⟨v55, v57, v59, h61, h56, h58, h60⟩ := El_cal_Calendar h52
        refine V_y (Y_loadA h61 Tryd.isAgg46 Tryd.sizeOf46 rfl) rfl rfl rfl ?_
        obtain ⟨x62, hx62, h19⟩ := Option.bind_eq_some_iff.1 h19
        refine V_call Tryd.call41 rfl rfl rfl rfl (portref2_CalendarFault_c (Dw := Dw) w41 hA x27 v55 h56 v57 h58 v59 h60 hx62) ?_
        rintro _ w63 ⟨rfl, hk64⟩
        have ht65 := Kp.tr (Dw := Dw) hk64 hA hB
        replace hH := Hp.kp (Dw := Dw) hH hk64
        replace h_cals := Sl.tr (Dw := Dw) h_cals ht65
        replace h52 := El.tr (Dw := Dw) h52 ht65
        replace h56 := Sl.tr (Dw := Dw) h56 ht65
        replace h58 := Sl.tr (Dw := Dw) h58 ht65
        replace h60 := Sl.tr (Dw := Dw) h60 ht65
        replace hK := Tr.trans (Dw := Dw) hK ht65
        replace hr6 := Tr.trans (Dw := Dw) hr6 ht65
        replace hB := Nat.le_trans hB ht65.ex.size
        replace hA := ht65.new
        refine V_y (Y_assign rfl) rfl rfl rfl ?_
        refine V_to (fun _ _ => rfl) ?_
        refine C_seq ?_
        refine C_region ?_
        refine V_y (Y_move rfl) rfl rfl rfl ?_
        refine V_y (Y_neq rfl rfl) rfl rfl rfl ?_
        refine V_to (fun _ _ => rfl) ?_
        refine C_cond rfl (fun hc66 => ?_) (fun hc66 => ?_)
        · rw [if_pos hc66] at h19
          refine C_seq ?_
          refine C_region ?_
          refine V_y (Y_move rfl) rfl rfl rfl ?_
          refine V_y (Y_assign rfl) rfl rfl rfl ?_
          refine V_to (fun _ _ => rfl) ?_
          obtain rfl := Option.some.inj h19
          obtain rfl := (h20 : Lp.rt _ = _)
          rw [Lp.andThen_rt] at hm
          obtain rfl := Option.some.inj hm
          refine C_ret ?_
          try simp only [↓inBlock_ret, ↓then_ret]
          exact retQ rfl (Res.one Tryd.results27 rfl) ⟨rfl, hK.kp⟩
        · rw [if_neg (nt hc66)] at h19
          refine C_skip_to (fun _ _ => rfl) ?_
          refine C_region ?_
          refine V_y (Y_addI rfl rfl) rfl rfl rfl ?_
          refine V_y (Y_move rfl) rfl rfl rfl ?_
          obtain rfl := Option.some.inj h19
          refine V_end (fun a ha67 => ?_)
          exact ⟨(), hlt22, h20, ⟨A16, ha67.sub ⟨rfl, rfl, (congrArg (fun z => some (Value.int .i64 z)) (w64_succ hlt22 hn25)), trivial⟩, ⟨hH, hr6⟩⟩⟩
      · refine C_exit (fun a ha68 => ?_)
        exact ⟨((), A16), ha68.sub trivial, ⟨(h23 (eq_of_dec hle21 hc26)).symm, hH, hr6⟩⟩
    rintro ⟨s5, A12⟩ w9 ⟨rfl, hH13, hk10⟩ a ha11
    rw [Lp.andThen_fin] at hm
    replace hK := Tr.trans (Dw := Dw) hK hk10
    replace hB := Nat.le_trans hB hk10.ex.size
    replace hA := hk10.new
    replace hH : Hp w.heap.size A12 w9 ([]) := hH13
    refine C_at (n := ⟨24, [], none⟩) (fun _ _ => rfl) ?_ ha11
    refine C_seq ?_
    refine C_region ?_
    refine V_y (Y_assign rfl) rfl rfl rfl ?_
    refine V_to (fun _ _ => rfl) ?_
    obtain rfl := Option.some.inj hm
    refine C_ret ?_
    try simp only [↓inBlock_ret, ↓then_ret]
    exact retQ rfl (Res.one Tryd.results27 rfl) ⟨rfl, hK.kp⟩

end Go.Proofs.YtehofjchjogbkaaDoor.W
