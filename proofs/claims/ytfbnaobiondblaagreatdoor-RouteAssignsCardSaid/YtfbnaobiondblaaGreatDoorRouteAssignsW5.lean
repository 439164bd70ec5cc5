import Derived.Test.YtfbnaobiondblaaGreatDoorRouteAssignsW4
namespace Go.Proofs.YtfbnaobiondblaaGreatDoor.W
open Go Go.RowKit Go.Pu Go.Gw Go.Proofs Go.Proofs.YtfbnaobiondblaaGreatDoor.M
set_option linter.unusedVariables false
set_option linter.unusedSimpArgs false
variable {Dw : Prop}
set_option maxHeartbeats 4000000
set_option maxRecDepth 4000
open Tryz
theorem portref2_Alike_7_c (w : World) {A : Nat → Prop} (hA : ∀ b, w.heap.size ≤ b → A b) (a_ : route_Work) (v_a_ : Value) (h_a_ : Sl A w v_a_ a_.needs) (b : route_Work) (v_b : Value) (h_b : Sl A w v_b b.needs) {r : Bool} (hm : portref2_Alike_7 a_ b = some r) : Ret prog 50 #[.agg #[Ii a_.ticket, Ii a_.weight, Ii a_.urgency, Ii a_.since, Ii a_.former, v_a_], .agg #[Ii b.ticket, Ii b.weight, Ii b.urgency, Ii b.since, Ii b.former, v_b]] w fun v w' => v = .bool r ∧ Kp Dw w w' := by
 unfold portref2_Alike_7 at hm
 refine enter func50 rfl ntmps50 rfl ?_
 have hA0 := hA
 obtain ⟨hB, hK, hH⟩ := St (Dw := Dw) hA
 refine Sr ?_
 refine V_box rfl rfl ?_
 intro b5 w6 h7
 have hk9 := h7.kp (Dw := Dw)
 have h8 : El (α := route_Work) A w6 b5 0 a_ := h7.el hA ⟨[Ii a_.ticket], _, rfl, rfl, ⟨[Ii a_.weight], _, rfl, rfl, ⟨[Ii a_.urgency], _, rfl, rfl, ⟨[Ii a_.since], _, rfl, rfl, ⟨[Ii a_.former], _, rfl, rfl, ⟨_, rfl, h_a_⟩⟩⟩⟩⟩⟩
 have ht10 := Kp.tr hk9 hA hB; replace hH := Hp.kp hH hk9; replace h_b := Sl.tr h_b ht10; replace hK := Tt hK ht10; replace hB := Bx hB ht10; replace hA := ht10.new
 refine V_box rfl rfl ?_
 intro b11 w12 h13
 have hk15 := h13.kp (Dw := Dw)
 have h14 : El (α := route_Work) A w12 b11 0 b := h13.el hA ⟨[Ii b.ticket], _, rfl, rfl, ⟨[Ii b.weight], _, rfl, rfl, ⟨[Ii b.urgency], _, rfl, rfl, ⟨[Ii b.since], _, rfl, rfl, ⟨[Ii b.former], _, rfl, rfl, ⟨_, rfl, h_b⟩⟩⟩⟩⟩⟩
 have ht16 := Kp.tr hk15 hA hB; replace hH := Hp.kp hH hk15; replace h8 := El.tr h8 ht16; replace hK := Tt hK ht16; replace hB := Bx hB ht16; replace hA := ht16.new
 refine As (To ?_)
 refine C_seq ?_
 obtain ⟨s18, ho17, hm⟩ := Bs hm
 refine C_cutG (ι := (Nat → Prop)) (fun (A23 : (Nat → Prop)) => [(4, .bool s18)]) (fun (A23 : (Nat → Prop)) => fun w' => Hp w.heap.size A23 w' ([]) ∧ Tr Dw w.heap.size A w12 A23 w') ?_ ?_
 ·have hr19 : Tr Dw w.heap.size A w12 A w12 := Tr.refl (Dw := Dw) hA
  refine C_region ?_
  have h25 := El_route_Work_0 h8
  refine Fa underlying43 rfl sizeOf3 (Li h25 isAgg3 ?_)
  have h26 := El_route_Work_0 h14
  refine Fa underlying43 rfl sizeOf3 (Li h26 isAgg3 (Vy (Y_eql rfl rfl) (Mm ?_)))
  rcases Be (a_.ticket == b.ticket) with hc27 | hc27
  ·rw [if_pos hc27] at ho17
   refine Gf hc27 ?_
   have h28 := El_route_Work_1 h8
   refine Fa underlying43 rfl sizeOf3 (Gf hc27 (Li h28 isAgg3 (Gf hc27 ?_)))
   have h29 := El_route_Work_1 h14
   refine Fa underlying43 rfl sizeOf3 (Gf hc27 (Li h29 isAgg3 (Gf hc27 (Vy (Y_eql rfl rfl) (Vy (Y_pick_te rfl hc27 rfl) (Mm ?_))))))
   rcases Be (a_.weight == b.weight) with hc30 | hc30
   ·rw [if_pos hc30] at ho17
    refine Gf hc30 ?_
    have h31 := El_route_Work_2 h8
    refine Fa underlying43 rfl sizeOf3 (Gf hc30 (Li h31 isAgg3 (Gf hc30 ?_)))
    have h32 := El_route_Work_2 h14
    refine Fa underlying43 rfl sizeOf3 (Gf hc30 (Li h32 isAgg3 (Gf hc30 (Vy (Y_eql rfl rfl) (Vy (Y_pick_te rfl hc30 rfl) (Mm ?_))))))
    rcases Be (a_.urgency == b.urgency) with hc33 | hc33
    ·rw [if_pos hc33] at ho17
     refine Gf hc33 ?_
     have h34 := El_route_Work_3 h8
     refine Fa underlying43 rfl sizeOf3 (Gf hc33 (Li h34 isAgg3 (Gf hc33 ?_)))
     have h35 := El_route_Work_3 h14
     refine Fa underlying43 rfl sizeOf3 (Gf hc33 (Li h35 isAgg3 (Gf hc33 (Vy (Y_eql rfl rfl) (Vy (Y_pick_te rfl hc33 rfl) (Mm ?_))))))
     rcases Be (a_.since == b.since) with hc36 | hc36
     ·rw [if_pos hc36] at ho17
      refine Gf hc36 ?_
      have h37 := El_route_Work_4 h8
      refine Fa underlying43 rfl sizeOf3 (Gf hc36 (Li h37 isAgg3 (Gf hc36 ?_)))
      have h38 := El_route_Work_4 h14
      refine Fa underlying43 rfl sizeOf3 (Gf hc36 (Li h38 isAgg3 (Gf hc36 (Vy (Y_eql rfl rfl) (Vy (Y_pick_te rfl hc36 rfl) (Mm ?_))))))
      rcases Be (a_.former == b.former) with hc39 | hc39
      ·rw [if_pos hc39] at ho17
       refine Gf hc39 ?_
       have h40 := El_route_Work_5 h8
       refine Fa underlying43 rfl sizeOf41 (Gf hc39 ?_)
       obtain ⟨v41, h42, h43⟩ := El.list h40
       refine Ld h42 isAgg41 (Gf hc39 ?_)
       have h44 := El_route_Work_5 h14
       refine Fa underlying43 rfl sizeOf41 (Gf hc39 ?_)
       obtain ⟨v45, h46, h47⟩ := El.list h44
       refine Ld h46 isAgg41 (Gf hc39 ?_)
       obtain ⟨x48, hx48, ho17⟩ := Bs ho17
       refine Vc call48 (slices_Equal_Lroute_Skill_route_Skill_c (Dw := Dw) w12 hA a_.needs v41 h43 b.needs v45 h47 hx48) ?_
       rintro _ w49 ⟨rfl, hk50⟩
       have ht51 := Kp.tr hk50 hA hB; replace hH := Hp.kp hH hk50; replace hr19 := Tt hr19 ht51
       refine Vy (Y_pick_te rfl hc39 rfl) (As ?_)
       obtain rfl := Oi ho17
       refine V_end (fun a ha52 => ?_)
       exact ⟨A, ha52.sb, ⟨hH, hr19⟩⟩
      rw [if_neg (nt hc39)] at ho17
      refine Gm hc39 (Gm hc39 (Gm hc39 (Gm hc39 (Gm hc39 (Vy (Y_pick_fe rfl hc39 rfl) (As ?_))))))
      obtain rfl := Oi ho17
      refine V_end (fun a ha53 => ?_)
      exact ⟨A, ha53.sb, ⟨hH, hr19⟩⟩
     rw [if_neg (nt hc36)] at ho17
     refine Gm hc36 (Gm hc36 (Gm hc36 (Gm hc36 (Gm hc36 (Vy (Y_pick_fe rfl hc36 rfl) (Mm ?_))))))
     rcases Be (false) with hc54 | hc54
     ·rw [if_pos hc54] at ho17
      refine Gf hc54 ?_
      have h55 := El_route_Work_5 h8
      refine Fa underlying43 rfl sizeOf41 (Gf hc54 ?_)
      obtain ⟨v56, h57, h58⟩ := El.list h55
      refine Ld h57 isAgg41 (Gf hc54 ?_)
      have h59 := El_route_Work_5 h14
      refine Fa underlying43 rfl sizeOf41 (Gf hc54 ?_)
      obtain ⟨v60, h61, h62⟩ := El.list h59
      refine Ld h61 isAgg41 (Gf hc54 ?_)
      obtain ⟨x63, hx63, ho17⟩ := Bs ho17
      refine Vc call48 (slices_Equal_Lroute_Skill_route_Skill_c (Dw := Dw) w12 hA a_.needs v56 h58 b.needs v60 h62 hx63) ?_
      rintro _ w65 ⟨rfl, hk66⟩
      have ht67 := Kp.tr hk66 hA hB; replace hH := Hp.kp hH hk66; replace hr19 := Tt hr19 ht67
      refine Vy (Y_pick_te rfl hc54 rfl) (As ?_)
      obtain rfl := Oi ho17
      refine V_end (fun a ha68 => ?_)
      exact ⟨A, ha68.sb, ⟨hH, hr19⟩⟩
     rw [if_neg (nt hc54)] at ho17
     refine Gm hc54 (Gm hc54 (Gm hc54 (Gm hc54 (Gm hc54 (Vy (Y_pick_fe rfl hc54 rfl) (As ?_))))))
     obtain rfl := Oi ho17
     refine V_end (fun a ha69 => ?_)
     exact ⟨A, ha69.sb, ⟨hH, hr19⟩⟩
    rw [if_neg (nt hc33)] at ho17
    refine Gm hc33 (Gm hc33 (Gm hc33 (Gm hc33 (Gm hc33 (Vy (Y_pick_fe rfl hc33 rfl) (Mm ?_))))))
    rcases Be (false) with hc70 | hc70
    ·rw [if_pos hc70] at ho17
     refine Gf hc70 ?_
     have h71 := El_route_Work_4 h8
     refine Fa underlying43 rfl sizeOf3 (Gf hc70 (Li h71 isAgg3 (Gf hc70 ?_)))
     have h72 := El_route_Work_4 h14
     refine Fa underlying43 rfl sizeOf3 (Gf hc70 (Li h72 isAgg3 (Gf hc70 (Vy (Y_eql rfl rfl) (Vy (Y_pick_te rfl hc70 rfl) (Mm ?_))))))
     rcases Be (a_.former == b.former) with hc73 | hc73
     ·rw [if_pos hc73] at ho17
      refine Gf hc73 ?_
      have h74 := El_route_Work_5 h8
      refine Fa underlying43 rfl sizeOf41 (Gf hc73 ?_)
      obtain ⟨v75, h76, h77⟩ := El.list h74
      refine Ld h76 isAgg41 (Gf hc73 ?_)
      have h78 := El_route_Work_5 h14
      refine Fa underlying43 rfl sizeOf41 (Gf hc73 ?_)
      obtain ⟨v79, h80, h81⟩ := El.list h78
      refine Ld h80 isAgg41 (Gf hc73 ?_)
      obtain ⟨x82, hx82, ho17⟩ := Bs ho17
      refine Vc call48 (slices_Equal_Lroute_Skill_route_Skill_c (Dw := Dw) w12 hA a_.needs v75 h77 b.needs v79 h81 hx82) ?_
      rintro _ w83 ⟨rfl, hk84⟩
      have ht85 := Kp.tr hk84 hA hB; replace hH := Hp.kp hH hk84; replace hr19 := Tt hr19 ht85
      refine Vy (Y_pick_te rfl hc73 rfl) (As ?_)
      obtain rfl := Oi ho17
      refine V_end (fun a ha86 => ?_)
      exact ⟨A, ha86.sb, ⟨hH, hr19⟩⟩
     rw [if_neg (nt hc73)] at ho17
     refine Gm hc73 (Gm hc73 (Gm hc73 (Gm hc73 (Gm hc73 (Vy (Y_pick_fe rfl hc73 rfl) (As ?_))))))
     obtain rfl := Oi ho17
     refine V_end (fun a ha87 => ?_)
     exact ⟨A, ha87.sb, ⟨hH, hr19⟩⟩
    rw [if_neg (nt hc70)] at ho17
    refine Gm hc70 (Gm hc70 (Gm hc70 (Gm hc70 (Gm hc70 (Vy (Y_pick_fe rfl hc70 rfl) (Mm ?_))))))
    rcases Be (false) with hc88 | hc88
    ·rw [if_pos hc88] at ho17
     refine Gf hc88 ?_
     have h89 := El_route_Work_5 h8
     refine Fa underlying43 rfl sizeOf41 (Gf hc88 ?_)
     obtain ⟨v90, h91, h92⟩ := El.list h89
     refine Ld h91 isAgg41 (Gf hc88 ?_)
     have h93 := El_route_Work_5 h14
     refine Fa underlying43 rfl sizeOf41 (Gf hc88 ?_)
     obtain ⟨v94, h95, h96⟩ := El.list h93
     refine Ld h95 isAgg41 (Gf hc88 ?_)
     obtain ⟨x97, hx97, ho17⟩ := Bs ho17
     refine Vc call48 (slices_Equal_Lroute_Skill_route_Skill_c (Dw := Dw) w12 hA a_.needs v90 h92 b.needs v94 h96 hx97) ?_
     rintro _ w98 ⟨rfl, hk99⟩
     have ht100 := Kp.tr hk99 hA hB; replace hH := Hp.kp hH hk99; replace hr19 := Tt hr19 ht100
     refine Vy (Y_pick_te rfl hc88 rfl) (As ?_)
     obtain rfl := Oi ho17
     refine V_end (fun a ha101 => ?_)
     exact ⟨A, ha101.sb, ⟨hH, hr19⟩⟩
    rw [if_neg (nt hc88)] at ho17
    refine Gm hc88 (Gm hc88 (Gm hc88 (Gm hc88 (Gm hc88 (Vy (Y_pick_fe rfl hc88 rfl) (As ?_))))))
    obtain rfl := Oi ho17
    refine V_end (fun a ha102 => ?_)
    exact ⟨A, ha102.sb, ⟨hH, hr19⟩⟩
   rw [if_neg (nt hc30)] at ho17
   refine Gm hc30 (Gm hc30 (Gm hc30 (Gm hc30 (Gm hc30 (Vy (Y_pick_fe rfl hc30 rfl) (Mm ?_))))))
   rcases Be (false) with hc103 | hc103
   ·rw [if_pos hc103] at ho17
    refine Gf hc103 ?_
    have h104 := El_route_Work_3 h8
    refine Fa underlying43 rfl sizeOf3 (Gf hc103 (Li h104 isAgg3 (Gf hc103 ?_)))
    have h105 := El_route_Work_3 h14
    refine Fa underlying43 rfl sizeOf3 (Gf hc103 (Li h105 isAgg3 (Gf hc103 (Vy (Y_eql rfl rfl) (Vy (Y_pick_te rfl hc103 rfl) (Mm ?_))))))
    rcases Be (a_.since == b.since) with hc106 | hc106
    ·rw [if_pos hc106] at ho17
     refine Gf hc106 ?_
     have h107 := El_route_Work_4 h8
     refine Fa underlying43 rfl sizeOf3 (Gf hc106 (Li h107 isAgg3 (Gf hc106 ?_)))
     have h108 := El_route_Work_4 h14
     refine Fa underlying43 rfl sizeOf3 (Gf hc106 (Li h108 isAgg3 (Gf hc106 (Vy (Y_eql rfl rfl) (Vy (Y_pick_te rfl hc106 rfl) (Mm ?_))))))
     rcases Be (a_.former == b.former) with hc109 | hc109
     ·rw [if_pos hc109] at ho17
      refine Gf hc109 ?_
      have h110 := El_route_Work_5 h8
      refine Fa underlying43 rfl sizeOf41 (Gf hc109 ?_)
      obtain ⟨v111, h112, h113⟩ := El.list h110
      refine Ld h112 isAgg41 (Gf hc109 ?_)
      have h114 := El_route_Work_5 h14
      refine Fa underlying43 rfl sizeOf41 (Gf hc109 ?_)
      obtain ⟨v115, h116, h117⟩ := El.list h114
      refine Ld h116 isAgg41 (Gf hc109 ?_)
      obtain ⟨x118, hx118, ho17⟩ := Bs ho17
      refine Vc call48 (slices_Equal_Lroute_Skill_route_Skill_c (Dw := Dw) w12 hA a_.needs v111 h113 b.needs v115 h117 hx118) ?_
      rintro _ w119 ⟨rfl, hk120⟩
      have ht121 := Kp.tr hk120 hA hB; replace hH := Hp.kp hH hk120; replace hr19 := Tt hr19 ht121
      refine Vy (Y_pick_te rfl hc109 rfl) (As ?_)
      obtain rfl := Oi ho17
      refine V_end (fun a ha122 => ?_)
      exact ⟨A, ha122.sb, ⟨hH, hr19⟩⟩
     rw [if_neg (nt hc109)] at ho17
     refine Gm hc109 (Gm hc109 (Gm hc109 (Gm hc109 (Gm hc109 (Vy (Y_pick_fe rfl hc109 rfl) (As ?_))))))
     obtain rfl := Oi ho17
     refine V_end (fun a ha123 => ?_)
     exact ⟨A, ha123.sb, ⟨hH, hr19⟩⟩
    rw [if_neg (nt hc106)] at ho17
    refine Gm hc106 (Gm hc106 (Gm hc106 (Gm hc106 (Gm hc106 (Vy (Y_pick_fe rfl hc106 rfl) (Mm ?_))))))
    rcases Be (false) with hc124 | hc124
    ·rw [if_pos hc124] at ho17
     refine Gf hc124 ?_
     have h125 := El_route_Work_5 h8
     refine Fa underlying43 rfl sizeOf41 (Gf hc124 ?_)
     obtain ⟨v126, h127, h128⟩ := El.list h125
     refine Ld h127 isAgg41 (Gf hc124 ?_)
     have h129 := El_route_Work_5 h14
     refine Fa underlying43 rfl sizeOf41 (Gf hc124 ?_)
     obtain ⟨v130, h131, h132⟩ := El.list h129
     refine Ld h131 isAgg41 (Gf hc124 ?_)
     obtain ⟨x133, hx133, ho17⟩ := Bs ho17
     refine Vc call48 (slices_Equal_Lroute_Skill_route_Skill_c (Dw := Dw) w12 hA a_.needs v126 h128 b.needs v130 h132 hx133) ?_
     rintro _ w134 ⟨rfl, hk135⟩
     have ht136 := Kp.tr hk135 hA hB; replace hH := Hp.kp hH hk135; replace hr19 := Tt hr19 ht136
     refine Vy (Y_pick_te rfl hc124 rfl) (As ?_)
     obtain rfl := Oi ho17
     refine V_end (fun a ha137 => ?_)
     exact ⟨A, ha137.sb, ⟨hH, hr19⟩⟩
    rw [if_neg (nt hc124)] at ho17
    refine Gm hc124 (Gm hc124 (Gm hc124 (Gm hc124 (Gm hc124 (Vy (Y_pick_fe rfl hc124 rfl) (As ?_))))))
    obtain rfl := Oi ho17
    refine V_end (fun a ha138 => ?_)
    exact ⟨A, ha138.sb, ⟨hH, hr19⟩⟩
   rw [if_neg (nt hc103)] at ho17
   refine Gm hc103 (Gm hc103 (Gm hc103 (Gm hc103 (Gm hc103 (Vy (Y_pick_fe rfl hc103 rfl) (Mm ?_))))))
   rcases Be (false) with hc139 | hc139
   ·rw [if_pos hc139] at ho17
    refine Gf hc139 ?_
    have h140 := El_route_Work_4 h8
    refine Fa underlying43 rfl sizeOf3 (Gf hc139 (Li h140 isAgg3 (Gf hc139 ?_)))
    have h141 := El_route_Work_4 h14
    refine Fa underlying43 rfl sizeOf3 (Gf hc139 (Li h141 isAgg3 (Gf hc139 (Vy (Y_eql rfl rfl) (Vy (Y_pick_te rfl hc139 rfl) (Mm ?_))))))
    rcases Be (a_.former == b.former) with hc142 | hc142
    ·rw [if_pos hc142] at ho17
     refine Gf hc142 ?_
     have h143 := El_route_Work_5 h8
     refine Fa underlying43 rfl sizeOf41 (Gf hc142 ?_)
     obtain ⟨v144, h145, h146⟩ := El.list h143
     refine Ld h145 isAgg41 (Gf hc142 ?_)
     have h147 := El_route_Work_5 h14
     refine Fa underlying43 rfl sizeOf41 (Gf hc142 ?_)
     obtain ⟨v148, h149, h150⟩ := El.list h147
     refine Ld h149 isAgg41 (Gf hc142 ?_)
     obtain ⟨x151, hx151, ho17⟩ := Bs ho17
     refine Vc call48 (slices_Equal_Lroute_Skill_route_Skill_c (Dw := Dw) w12 hA a_.needs v144 h146 b.needs v148 h150 hx151) ?_
     rintro _ w152 ⟨rfl, hk153⟩
     have ht154 := Kp.tr hk153 hA hB; replace hH := Hp.kp hH hk153; replace hr19 := Tt hr19 ht154
     refine Vy (Y_pick_te rfl hc142 rfl) (As ?_)
     obtain rfl := Oi ho17
     refine V_end (fun a ha155 => ?_)
     exact ⟨A, ha155.sb, ⟨hH, hr19⟩⟩
    rw [if_neg (nt hc142)] at ho17
    refine Gm hc142 (Gm hc142 (Gm hc142 (Gm hc142 (Gm hc142 (Vy (Y_pick_fe rfl hc142 rfl) (As ?_))))))
    obtain rfl := Oi ho17
    refine V_end (fun a ha156 => ?_)
    exact ⟨A, ha156.sb, ⟨hH, hr19⟩⟩
   rw [if_neg (nt hc139)] at ho17
   refine Gm hc139 (Gm hc139 (Gm hc139 (Gm hc139 (Gm hc139 (Vy (Y_pick_fe rfl hc139 rfl) (Mm ?_))))))
   rcases Be (false) with hc157 | hc157
   ·rw [if_pos hc157] at ho17
    refine Gf hc157 ?_
    have h158 := El_route_Work_5 h8
    refine Fa underlying43 rfl sizeOf41 (Gf hc157 ?_)
    obtain ⟨v159, h160, h161⟩ := El.list h158
    refine Ld h160 isAgg41 (Gf hc157 ?_)
    have h162 := El_route_Work_5 h14
    refine Fa underlying43 rfl sizeOf41 (Gf hc157 ?_)
    obtain ⟨v163, h164, h165⟩ := El.list h162
    refine Ld h164 isAgg41 (Gf hc157 ?_)
    obtain ⟨x166, hx166, ho17⟩ := Bs ho17
    refine Vc call48 (slices_Equal_Lroute_Skill_route_Skill_c (Dw := Dw) w12 hA a_.needs v159 h161 b.needs v163 h165 hx166) ?_
    rintro _ w167 ⟨rfl, hk168⟩
    have ht169 := Kp.tr hk168 hA hB; replace hH := Hp.kp hH hk168; replace hr19 := Tt hr19 ht169
    refine Vy (Y_pick_te rfl hc157 rfl) (As ?_)
    obtain rfl := Oi ho17
    refine V_end (fun a ha170 => ?_)
    exact ⟨A, ha170.sb, ⟨hH, hr19⟩⟩
   rw [if_neg (nt hc157)] at ho17
   refine Gm hc157 (Gm hc157 (Gm hc157 (Gm hc157 (Gm hc157 (Vy (Y_pick_fe rfl hc157 rfl) (As ?_))))))
   obtain rfl := Oi ho17
   refine V_end (fun a ha171 => ?_)
   exact ⟨A, ha171.sb, ⟨hH, hr19⟩⟩
  rw [if_neg (nt hc27)] at ho17
  refine Gm hc27 (Gm hc27 (Gm hc27 (Gm hc27 (Gm hc27 (Vy (Y_pick_fe rfl hc27 rfl) (Mm ?_))))))
  rcases Be (false) with hc172 | hc172
  ·rw [if_pos hc172] at ho17
   refine Gf hc172 ?_
   have h173 := El_route_Work_2 h8
   refine Fa underlying43 rfl sizeOf3 (Gf hc172 (Li h173 isAgg3 (Gf hc172 ?_)))
   have h174 := El_route_Work_2 h14
   refine Fa underlying43 rfl sizeOf3 (Gf hc172 (Li h174 isAgg3 (Gf hc172 (Vy (Y_eql rfl rfl) (Vy (Y_pick_te rfl hc172 rfl) (Mm ?_))))))
   rcases Be (a_.urgency == b.urgency) with hc175 | hc175
   ·rw [if_pos hc175] at ho17
    refine Gf hc175 ?_
    have h176 := El_route_Work_3 h8
    refine Fa underlying43 rfl sizeOf3 (Gf hc175 (Li h176 isAgg3 (Gf hc175 ?_)))
    have h177 := El_route_Work_3 h14
    refine Fa underlying43 rfl sizeOf3 (Gf hc175 (Li h177 isAgg3 (Gf hc175 (Vy (Y_eql rfl rfl) (Vy (Y_pick_te rfl hc175 rfl) (Mm ?_))))))
    rcases Be (a_.since == b.since) with hc178 | hc178
    ·rw [if_pos hc178] at ho17
     refine Gf hc178 ?_
     have h179 := El_route_Work_4 h8
     refine Fa underlying43 rfl sizeOf3 (Gf hc178 (Li h179 isAgg3 (Gf hc178 ?_)))
     have h180 := El_route_Work_4 h14
     refine Fa underlying43 rfl sizeOf3 (Gf hc178 (Li h180 isAgg3 (Gf hc178 (Vy (Y_eql rfl rfl) (Vy (Y_pick_te rfl hc178 rfl) (Mm ?_))))))
     rcases Be (a_.former == b.former) with hc181 | hc181
     ·rw [if_pos hc181] at ho17
      refine Gf hc181 ?_
      have h182 := El_route_Work_5 h8
      refine Fa underlying43 rfl sizeOf41 (Gf hc181 ?_)
      obtain ⟨v183, h184, h185⟩ := El.list h182
      refine Ld h184 isAgg41 (Gf hc181 ?_)
      have h186 := El_route_Work_5 h14
      refine Fa underlying43 rfl sizeOf41 (Gf hc181 ?_)
      obtain ⟨v187, h188, h189⟩ := El.list h186
      refine Ld h188 isAgg41 (Gf hc181 ?_)
      obtain ⟨x190, hx190, ho17⟩ := Bs ho17
      refine Vc call48 (slices_Equal_Lroute_Skill_route_Skill_c (Dw := Dw) w12 hA a_.needs v183 h185 b.needs v187 h189 hx190) ?_
      rintro _ w191 ⟨rfl, hk192⟩
      have ht193 := Kp.tr hk192 hA hB; replace hH := Hp.kp hH hk192; replace hr19 := Tt hr19 ht193
      refine Vy (Y_pick_te rfl hc181 rfl) (As ?_)
      obtain rfl := Oi ho17
      refine V_end (fun a ha194 => ?_)
      exact ⟨A, ha194.sb, ⟨hH, hr19⟩⟩
     rw [if_neg (nt hc181)] at ho17
     refine Gm hc181 (Gm hc181 (Gm hc181 (Gm hc181 (Gm hc181 (Vy (Y_pick_fe rfl hc181 rfl) (As ?_))))))
     obtain rfl := Oi ho17
     refine V_end (fun a ha195 => ?_)
     exact ⟨A, ha195.sb, ⟨hH, hr19⟩⟩
    rw [if_neg (nt hc178)] at ho17
    refine Gm hc178 (Gm hc178 (Gm hc178 (Gm hc178 (Gm hc178 (Vy (Y_pick_fe rfl hc178 rfl) (Mm ?_))))))
    rcases Be (false) with hc196 | hc196
    ·rw [if_pos hc196] at ho17
     refine Gf hc196 ?_
     have h197 := El_route_Work_5 h8
     refine Fa underlying43 rfl sizeOf41 (Gf hc196 ?_)
     obtain ⟨v198, h199, h200⟩ := El.list h197
     refine Ld h199 isAgg41 (Gf hc196 ?_)
     have h201 := El_route_Work_5 h14
     refine Fa underlying43 rfl sizeOf41 (Gf hc196 ?_)
     obtain ⟨v202, h203, h204⟩ := El.list h201
     refine Ld h203 isAgg41 (Gf hc196 ?_)
     obtain ⟨x205, hx205, ho17⟩ := Bs ho17
     refine Vc call48 (slices_Equal_Lroute_Skill_route_Skill_c (Dw := Dw) w12 hA a_.needs v198 h200 b.needs v202 h204 hx205) ?_
     rintro _ w206 ⟨rfl, hk207⟩
     have ht208 := Kp.tr hk207 hA hB; replace hH := Hp.kp hH hk207; replace hr19 := Tt hr19 ht208
     refine Vy (Y_pick_te rfl hc196 rfl) (As ?_)
     obtain rfl := Oi ho17
     refine V_end (fun a ha209 => ?_)
     exact ⟨A, ha209.sb, ⟨hH, hr19⟩⟩
    rw [if_neg (nt hc196)] at ho17
    refine Gm hc196 (Gm hc196 (Gm hc196 (Gm hc196 (Gm hc196 (Vy (Y_pick_fe rfl hc196 rfl) (As ?_))))))
    obtain rfl := Oi ho17
    refine V_end (fun a ha210 => ?_)
    exact ⟨A, ha210.sb, ⟨hH, hr19⟩⟩
   rw [if_neg (nt hc175)] at ho17
   refine Gm hc175 (Gm hc175 (Gm hc175 (Gm hc175 (Gm hc175 (Vy (Y_pick_fe rfl hc175 rfl) (Mm ?_))))))
   rcases Be (false) with hc211 | hc211
   ·rw [if_pos hc211] at ho17
    refine Gf hc211 ?_
    have h212 := El_route_Work_4 h8
    refine Fa underlying43 rfl sizeOf3 (Gf hc211 (Li h212 isAgg3 (Gf hc211 ?_)))
    have h213 := El_route_Work_4 h14
    refine Fa underlying43 rfl sizeOf3 (Gf hc211 (Li h213 isAgg3 (Gf hc211 (Vy (Y_eql rfl rfl) (Vy (Y_pick_te rfl hc211 rfl) (Mm ?_))))))
    rcases Be (a_.former == b.former) with hc214 | hc214
    ·rw [if_pos hc214] at ho17
     refine Gf hc214 ?_
     have h215 := El_route_Work_5 h8
     refine Fa underlying43 rfl sizeOf41 (Gf hc214 ?_)
     obtain ⟨v216, h217, h218⟩ := El.list h215
     refine Ld h217 isAgg41 (Gf hc214 ?_)
     have h219 := El_route_Work_5 h14
     refine Fa underlying43 rfl sizeOf41 (Gf hc214 ?_)
     obtain ⟨v220, h221, h222⟩ := El.list h219
     refine Ld h221 isAgg41 (Gf hc214 ?_)
     obtain ⟨x223, hx223, ho17⟩ := Bs ho17
     refine Vc call48 (slices_Equal_Lroute_Skill_route_Skill_c (Dw := Dw) w12 hA a_.needs v216 h218 b.needs v220 h222 hx223) ?_
     rintro _ w224 ⟨rfl, hk225⟩
     have ht226 := Kp.tr hk225 hA hB; replace hH := Hp.kp hH hk225; replace hr19 := Tt hr19 ht226
     refine Vy (Y_pick_te rfl hc214 rfl) (As ?_)
     obtain rfl := Oi ho17
     refine V_end (fun a ha227 => ?_)
     exact ⟨A, ha227.sb, ⟨hH, hr19⟩⟩
    rw [if_neg (nt hc214)] at ho17
    refine Gm hc214 (Gm hc214 (Gm hc214 (Gm hc214 (Gm hc214 (Vy (Y_pick_fe rfl hc214 rfl) (As ?_))))))
    obtain rfl := Oi ho17
    refine V_end (fun a ha228 => ?_)
    exact ⟨A, ha228.sb, ⟨hH, hr19⟩⟩
   rw [if_neg (nt hc211)] at ho17
   refine Gm hc211 (Gm hc211 (Gm hc211 (Gm hc211 (Gm hc211 (Vy (Y_pick_fe rfl hc211 rfl) (Mm ?_))))))
   rcases Be (false) with hc229 | hc229
   ·rw [if_pos hc229] at ho17
    refine Gf hc229 ?_
    have h230 := El_route_Work_5 h8
    refine Fa underlying43 rfl sizeOf41 (Gf hc229 ?_)
    obtain ⟨v231, h232, h233⟩ := El.list h230
    refine Ld h232 isAgg41 (Gf hc229 ?_)
    have h234 := El_route_Work_5 h14
    refine Fa underlying43 rfl sizeOf41 (Gf hc229 ?_)
    obtain ⟨v235, h236, h237⟩ := El.list h234
    refine Ld h236 isAgg41 (Gf hc229 ?_)
    obtain ⟨x238, hx238, ho17⟩ := Bs ho17
    refine Vc call48 (slices_Equal_Lroute_Skill_route_Skill_c (Dw := Dw) w12 hA a_.needs v231 h233 b.needs v235 h237 hx238) ?_
    rintro _ w239 ⟨rfl, hk240⟩
    have ht241 := Kp.tr hk240 hA hB; replace hH := Hp.kp hH hk240; replace hr19 := Tt hr19 ht241
    refine Vy (Y_pick_te rfl hc229 rfl) (As ?_)
    obtain rfl := Oi ho17
    refine V_end (fun a ha242 => ?_)
    exact ⟨A, ha242.sb, ⟨hH, hr19⟩⟩
   rw [if_neg (nt hc229)] at ho17
   refine Gm hc229 (Gm hc229 (Gm hc229 (Gm hc229 (Gm hc229 (Vy (Y_pick_fe rfl hc229 rfl) (As ?_))))))
   obtain rfl := Oi ho17
   refine V_end (fun a ha243 => ?_)
   exact ⟨A, ha243.sb, ⟨hH, hr19⟩⟩
  rw [if_neg (nt hc172)] at ho17
  refine Gm hc172 (Gm hc172 (Gm hc172 (Gm hc172 (Gm hc172 (Vy (Y_pick_fe rfl hc172 rfl) (Mm ?_))))))
  rcases Be (false) with hc244 | hc244
  ·rw [if_pos hc244] at ho17
   refine Gf hc244 ?_
   have h245 := El_route_Work_3 h8
   refine Fa underlying43 rfl sizeOf3 (Gf hc244 (Li h245 isAgg3 (Gf hc244 ?_)))
   have h246 := El_route_Work_3 h14
   refine Fa underlying43 rfl sizeOf3 (Gf hc244 (Li h246 isAgg3 (Gf hc244 (Vy (Y_eql rfl rfl) (Vy (Y_pick_te rfl hc244 rfl) (Mm ?_))))))
   rcases Be (a_.since == b.since) with hc247 | hc247
   ·rw [if_pos hc247] at ho17
    refine Gf hc247 ?_
    have h248 := El_route_Work_4 h8
    refine Fa underlying43 rfl sizeOf3 (Gf hc247 (Li h248 isAgg3 (Gf hc247 ?_)))
    have h249 := El_route_Work_4 h14
    refine Fa underlying43 rfl sizeOf3 (Gf hc247 (Li h249 isAgg3 (Gf hc247 (Vy (Y_eql rfl rfl) (Vy (Y_pick_te rfl hc247 rfl) (Mm ?_))))))
    rcases Be (a_.former == b.former) with hc250 | hc250
    ·rw [if_pos hc250] at ho17
     refine Gf hc250 ?_
     have h251 := El_route_Work_5 h8
     refine Fa underlying43 rfl sizeOf41 (Gf hc250 ?_)
     obtain ⟨v252, h253, h254⟩ := El.list h251
     refine Ld h253 isAgg41 (Gf hc250 ?_)
     have h255 := El_route_Work_5 h14
     refine Fa underlying43 rfl sizeOf41 (Gf hc250 ?_)
     obtain ⟨v256, h257, h258⟩ := El.list h255
     refine Ld h257 isAgg41 (Gf hc250 ?_)
     obtain ⟨x259, hx259, ho17⟩ := Bs ho17
     refine Vc call48 (slices_Equal_Lroute_Skill_route_Skill_c (Dw := Dw) w12 hA a_.needs v252 h254 b.needs v256 h258 hx259) ?_
     rintro _ w260 ⟨rfl, hk261⟩
     have ht262 := Kp.tr hk261 hA hB; replace hH := Hp.kp hH hk261; replace hr19 := Tt hr19 ht262
     refine Vy (Y_pick_te rfl hc250 rfl) (As ?_)
     obtain rfl := Oi ho17
     refine V_end (fun a ha263 => ?_)
     exact ⟨A, ha263.sb, ⟨hH, hr19⟩⟩
    rw [if_neg (nt hc250)] at ho17
    refine Gm hc250 (Gm hc250 (Gm hc250 (Gm hc250 (Gm hc250 (Vy (Y_pick_fe rfl hc250 rfl) (As ?_))))))
    obtain rfl := Oi ho17
    refine V_end (fun a ha264 => ?_)
    exact ⟨A, ha264.sb, ⟨hH, hr19⟩⟩
   rw [if_neg (nt hc247)] at ho17
   refine Gm hc247 (Gm hc247 (Gm hc247 (Gm hc247 (Gm hc247 (Vy (Y_pick_fe rfl hc247 rfl) (Mm ?_))))))
   rcases Be (false) with hc265 | hc265
   ·rw [if_pos hc265] at ho17
    refine Gf hc265 ?_
    have h266 := El_route_Work_5 h8
    refine Fa underlying43 rfl sizeOf41 (Gf hc265 ?_)
    obtain ⟨v267, h268, h269⟩ := El.list h266
    refine Ld h268 isAgg41 (Gf hc265 ?_)
    have h270 := El_route_Work_5 h14
    refine Fa underlying43 rfl sizeOf41 (Gf hc265 ?_)
    obtain ⟨v271, h272, h273⟩ := El.list h270
    refine Ld h272 isAgg41 (Gf hc265 ?_)
    obtain ⟨x274, hx274, ho17⟩ := Bs ho17
    refine Vc call48 (slices_Equal_Lroute_Skill_route_Skill_c (Dw := Dw) w12 hA a_.needs v267 h269 b.needs v271 h273 hx274) ?_
    rintro _ w275 ⟨rfl, hk276⟩
    have ht277 := Kp.tr hk276 hA hB; replace hH := Hp.kp hH hk276; replace hr19 := Tt hr19 ht277
    refine Vy (Y_pick_te rfl hc265 rfl) (As ?_)
    obtain rfl := Oi ho17
    refine V_end (fun a ha278 => ?_)
    exact ⟨A, ha278.sb, ⟨hH, hr19⟩⟩
   rw [if_neg (nt hc265)] at ho17
   refine Gm hc265 (Gm hc265 (Gm hc265 (Gm hc265 (Gm hc265 (Vy (Y_pick_fe rfl hc265 rfl) (As ?_))))))
   obtain rfl := Oi ho17
   refine V_end (fun a ha279 => ?_)
   exact ⟨A, ha279.sb, ⟨hH, hr19⟩⟩
  rw [if_neg (nt hc244)] at ho17
  refine Gm hc244 (Gm hc244 (Gm hc244 (Gm hc244 (Gm hc244 (Vy (Y_pick_fe rfl hc244 rfl) (Mm ?_))))))
  rcases Be (false) with hc280 | hc280
  ·rw [if_pos hc280] at ho17
   refine Gf hc280 ?_
   have h281 := El_route_Work_4 h8
   refine Fa underlying43 rfl sizeOf3 (Gf hc280 (Li h281 isAgg3 (Gf hc280 ?_)))
   have h282 := El_route_Work_4 h14
   refine Fa underlying43 rfl sizeOf3 (Gf hc280 (Li h282 isAgg3 (Gf hc280 (Vy (Y_eql rfl rfl) (Vy (Y_pick_te rfl hc280 rfl) (Mm ?_))))))
   rcases Be (a_.former == b.former) with hc283 | hc283
   ·rw [if_pos hc283] at ho17
    refine Gf hc283 ?_
    have h284 := El_route_Work_5 h8
    refine Fa underlying43 rfl sizeOf41 (Gf hc283 ?_)
    obtain ⟨v285, h286, h287⟩ := El.list h284
    refine Ld h286 isAgg41 (Gf hc283 ?_)
    have h288 := El_route_Work_5 h14
    refine Fa underlying43 rfl sizeOf41 (Gf hc283 ?_)
    obtain ⟨v289, h290, h291⟩ := El.list h288
    refine Ld h290 isAgg41 (Gf hc283 ?_)
    obtain ⟨x292, hx292, ho17⟩ := Bs ho17
    refine Vc call48 (slices_Equal_Lroute_Skill_route_Skill_c (Dw := Dw) w12 hA a_.needs v285 h287 b.needs v289 h291 hx292) ?_
    rintro _ w293 ⟨rfl, hk294⟩
    have ht295 := Kp.tr hk294 hA hB; replace hH := Hp.kp hH hk294; replace hr19 := Tt hr19 ht295
    refine Vy (Y_pick_te rfl hc283 rfl) (As ?_)
    obtain rfl := Oi ho17
    refine V_end (fun a ha296 => ?_)
    exact ⟨A, ha296.sb, ⟨hH, hr19⟩⟩
   rw [if_neg (nt hc283)] at ho17
   refine Gm hc283 (Gm hc283 (Gm hc283 (Gm hc283 (Gm hc283 (Vy (Y_pick_fe rfl hc283 rfl) (As ?_))))))
   obtain rfl := Oi ho17
   refine V_end (fun a ha297 => ?_)
   exact ⟨A, ha297.sb, ⟨hH, hr19⟩⟩
  rw [if_neg (nt hc280)] at ho17
  refine Gm hc280 (Gm hc280 (Gm hc280 (Gm hc280 (Gm hc280 (Vy (Y_pick_fe rfl hc280 rfl) (Mm ?_))))))
  rcases Be (false) with hc298 | hc298
  ·rw [if_pos hc298] at ho17
   refine Gf hc298 ?_
   have h299 := El_route_Work_5 h8
   refine Fa underlying43 rfl sizeOf41 (Gf hc298 ?_)
   obtain ⟨v300, h301, h302⟩ := El.list h299
   refine Ld h301 isAgg41 (Gf hc298 ?_)
   have h303 := El_route_Work_5 h14
   refine Fa underlying43 rfl sizeOf41 (Gf hc298 ?_)
   obtain ⟨v304, h305, h306⟩ := El.list h303
   refine Ld h305 isAgg41 (Gf hc298 ?_)
   obtain ⟨x307, hx307, ho17⟩ := Bs ho17
   refine Vc call48 (slices_Equal_Lroute_Skill_route_Skill_c (Dw := Dw) w12 hA a_.needs v300 h302 b.needs v304 h306 hx307) ?_
   rintro _ w308 ⟨rfl, hk309⟩
   have ht310 := Kp.tr hk309 hA hB; replace hH := Hp.kp hH hk309; replace hr19 := Tt hr19 ht310
   refine Vy (Y_pick_te rfl hc298 rfl) (As ?_)
   obtain rfl := Oi ho17
   refine V_end (fun a ha311 => ?_)
   exact ⟨A, ha311.sb, ⟨hH, hr19⟩⟩
  rw [if_neg (nt hc298)] at ho17
  refine Gm hc298 (Gm hc298 (Gm hc298 (Gm hc298 (Gm hc298 (Vy (Y_pick_fe rfl hc298 rfl) (As ?_))))))
  obtain rfl := Oi ho17
  refine V_end (fun a ha312 => ?_)
  exact ⟨A, ha312.sb, ⟨hH, hr19⟩⟩
 rintro A23 w20 ⟨hH24, hk21⟩ a ha22
 replace hK := Tr.trans hK hk21; replace hA := hk21.new; replace hH := hH24
 refine C_at (n := ⟨45, [], none⟩) (fun _ _ => rfl) ?_ ha22
 obtain rfl := Oi hm
 refine Rt (Res.one results50 rfl) ?_
 exact ⟨rfl, hK.kp⟩
theorem portref2_Alike_c (w : World) {A : Nat → Prop} (hA : ∀ b, w.heap.size ≤ b → A b) (a_ : (List route_Work)) (v_a_ : Value) (h_a_ : Sl A w v_a_ a_) (b : (List route_Work)) (v_b : Value) (h_b : Sl A w v_b b) {r : Bool} (hm : portref2_Alike a_ b = some r) : Ret prog 7 #[.iface 25 v_a_, .iface 25 v_b] w fun v w' => v = .bool r ∧ Kp Dw w w' := by
 unfold portref2_Alike at hm
 refine enter func7 rfl ntmps7 rfl ?_
 have hA0 := hA
 obtain ⟨hB, hK, hH⟩ := St (Dw := Dw) hA
 refine Sr (As (To ?_))
 refine C_seq (Sr (Mm (To ?_)))
 refine C_block (Sr (Vy (Y_asNS underlying68 zeroValue68 (by decide) rfl) (Vy (Y_extract rfl rfl) (Vy (Y_extract rfl rfl) (To ?_)))))
 refine Cc (fun hc => ?_) fun hc => ?_
 ·exact absurd hc (by decide)
 refine Sr (Vy (Y_asNL underlying80 zeroValue80 (by decide) rfl) (Vy (Y_extract rfl rfl) (Vy (Y_extract rfl rfl) (To ?_))))
 refine Cc (fun hc => ?_) fun hc => ?_
 ·exact absurd hc (by decide)
 refine Sr (Vy (Y_asNL underlying90 zeroValue90 (by decide) rfl) (Vy (Y_extract rfl rfl) (Vy (Y_extract rfl rfl) (To ?_))))
 refine Cc (fun hc => ?_) fun hc => ?_
 ·exact absurd hc (by decide)
 refine Sr (Vy (Y_asNS underlying101 zeroValue101 (by decide) rfl) (Vy (Y_extract rfl rfl) (Vy (Y_extract rfl rfl) (To ?_))))
 refine Cc (fun hc => ?_) fun hc => ?_
 ·exact absurd hc (by decide)
 refine Sr (Vy (Y_asNS underlying115 zeroValue115 (by decide) rfl) (Vy (Y_extract rfl rfl) (Vy (Y_extract rfl rfl) (To ?_))))
 refine Cc (fun hc => ?_) fun hc => ?_
 ·exact absurd hc (by decide)
 refine Sr (Vy (Y_asNL underlying22 zeroValue22 (by decide) rfl) (Vy (Y_extract rfl rfl) (Vy (Y_extract rfl rfl) (To ?_))))
 refine Cc (fun hc => ?_) fun hc => ?_
 ·exact absurd hc (by decide)
 refine Sr (Vy (Y_asIL underlying25 rfl) (Vy (Y_extract rfl rfl) (Vy (Y_extract rfl rfl) (To ?_))))
 refine Cc (fun hc => ?_) fun hc => ?_
 ·refine Sr (As (To ?_))
  refine Sr (Mm (Vy (Y_asIL underlying25 rfl) (Mm (Vy (Y_extract rfl rfl) (Vy (Y_extract rfl rfl) (As (As (To ?_))))))))
  refine C_seq ?_
  obtain ⟨s6, ho5, hm⟩ := Bs hm
  refine C_cutG (ι := (Nat → Prop)) (fun (A12 : (Nat → Prop)) => [(4, .bool s6)]) (fun (A12 : (Nat → Prop)) => fun w' => Hp w.heap.size A12 w' ([]) ∧ Tr Dw w.heap.size A w A12 w') ?_ ?_
  ·have hr7 : Tr Dw w.heap.size A w A w := Tr.refl (Dw := Dw) hA
   refine C_region (Mm (Mm ?_))
   rcases Be (true) with hc14 | hc14
   ·rw [if_pos hc14] at ho5
    refine Gf hc14 (Mm (Gf hc14 (Mm (Gf hc14 ?_))))
    obtain ⟨x17, hx17, ho5⟩ := Bs ho5
    refine Vc call49 (slices_EqualFunc_Lroute_Work_Lroute_Work_route_Work_route_Work_c (Dw := Dw) w hA a_ v_a_ h_a_ b v_b h_b (fun y30 y31 => portref2_Alike_7 y30 y31) 50 #[] #[] call50 (fun w26 A27 ht28 h29 y18 v19 h20 y21 v22 h23 r24 h25 => (portref2_Alike_7_c (Dw := Dw) w26 h29 y18 v19 h20 y21 v22 h23  h25).mono (fun _ _ h => ⟨h.1, h.2⟩)) hx17) ?_
    rintro _ w33 ⟨rfl, hk34⟩
    have ht35 := Kp.tr hk34 hA hB; replace hH := Hp.kp hH hk34; replace hr7 := Tt hr7 ht35
    refine Vy (Y_pick_te rfl hc14 rfl) (As ?_)
    obtain rfl := Oi ho5
    refine V_end (fun a ha36 => ?_)
    exact ⟨A, ha36.sb, ⟨hH, hr7⟩⟩
   rw [if_neg (nt hc14)] at ho5
   refine Gm hc14 (Gm hc14 (Gm hc14 (Vy (Y_pick_fe rfl hc14 rfl) (As ?_))))
   obtain rfl := Oi ho5
   refine V_end (fun a ha37 => ?_)
   exact ⟨A, ha37.sb, ⟨hH, hr7⟩⟩
  rintro A12 w9 ⟨hH13, hk10⟩ a ha11
  replace hK := Tr.trans hK hk10; replace hA := hk10.new; replace hH := hH13
  refine C_at (n := ⟨248, [], none⟩) (fun _ _ => rfl) ?_ ha11
  obtain rfl := Oi hm
  refine Rt (Res.one results7 rfl) ?_
  exact ⟨rfl, hK.kp⟩
 exact absurd hc (by decide)
theorem portlaw2_RouteAssigns_c (w : World) {A : Nat → Prop} (hA : ∀ b, w.heap.size ≤ b → A b) (people : (List route_Person)) (v_people : Value) (h_people : Sl A w v_people people) (cals : (List cal_Calendar)) (v_cals : Value) (h_cals : Sl A w v_cals cals) (held : (List route_Held)) (v_held : Value) (h_held : Sl A w v_held held) (waiting : (List route_Work)) (v_waiting : Value) (h_waiting : Sl A w v_waiting waiting) (steps : (List route_Step)) (v_steps : Value) (h_steps : Sl A w v_steps steps) (m : Int) {r : Bool} (hm : portlaw2_RouteAssigns people cals held waiting steps m = some r) : Ret prog 3 #[v_people, v_cals, v_held, v_waiting, v_steps, Ii m] w fun v w' => v = .bool r ∧ Kp False w w' := by
 unfold portlaw2_RouteAssigns at hm
 refine enter func3 rfl ntmps3 rfl ?_
 have hA0 := hA
 obtain ⟨hB, hK, hH⟩ := St (Dw := False) hA
 refine Sr (As (To ?_))
 refine Sr (Mm (Mm (Mm (Mm (Mm (Mm ?_))))))
 obtain ⟨x11, hx11, hm⟩ := Bs hm
 refine Vc call4 (route_Assign_c (Dw := False) w hA people v_people h_people cals v_cals h_cals held v_held h_held waiting v_waiting h_waiting steps v_steps h_steps m hx11) ?_
 rintro _ w17 ⟨v12, v14, rfl, h13, h15, hk18⟩
 have ht19 := Kp.tr hk18 hA hB; replace hH := Hp.kp hH hk18; replace h_people := Sl.tr h_people ht19; replace h_cals := Sl.tr h_cals ht19; replace h_held := Sl.tr h_held ht19; replace h_waiting := Sl.tr h_waiting ht19; replace h_steps := Sl.tr h_steps ht19; replace hK := Tt hK ht19; replace hB := Bx hB ht19; replace hA := ht19.new
 refine Mm (Vy (Y_extract rfl rfl) (Vy (Y_extract rfl rfl) (Vy (Y_extract rfl rfl) (As (As (As (To ?_)))))))
 refine Sr (Mm (Mm (Mm (Mm (Mm (Mm ?_))))))
 obtain ⟨x20, hx20, hm⟩ := Bs hm
 refine Vc call5 (portref2_AssignOf_c w17 hA people v_people h_people cals v_cals h_cals held v_held h_held waiting v_waiting h_waiting steps v_steps h_steps m hx20) ?_
 rintro _ w25 ⟨v21, v23, rfl, h22, h24, hk26⟩
 have ht27 := Kp.tr hk26 hA hB; replace hH := Hp.kp hH hk26; replace h13 := Sl.tr h13 ht27; replace h15 := Sl.tr h15 ht27; replace hK := Tt hK ht27; replace hB := Bx hB ht27; replace hA := ht27.new
 refine Mm (Vy (Y_extract rfl rfl) (Vy (Y_extract rfl rfl) (Vy (Y_extract rfl rfl) (As (As (As (To ?_)))))))
 refine C_seq ?_
 obtain ⟨s29, ho28, hm⟩ := Bs hm
 refine C_cutG (ι := (Nat → Prop)) (fun (A34 : (Nat → Prop)) => [(12, .bool s29)]) (fun (A34 : (Nat → Prop)) => fun w' => Hp w.heap.size A34 w' ([]) ∧ Tr False w.heap.size A w25 A34 w') ?_ ?_
 ·have hr30 : Tr False w.heap.size A w25 A w25 := Tr.refl (Dw := False) hA
  refine C_region (Mm (Mm (Vy (Y_eql rfl rfl) (Mm ?_))))
  rcases Be (x11.2.2 == x20.2.2) with hc36 | hc36
  ·rw [if_pos hc36] at ho28
   refine Gf hc36 (Mm (Gf hc36 (Mm (Gf hc36 ?_))))
   obtain ⟨x37, hx37, ho28⟩ := Bs ho28
   refine Vc call6 (slices_Equal_Lroute_Held_route_Held_c (Dw := False) w25 hA x11.1 v12 h13 x20.1 v21 h22 hx37) ?_
   rintro _ w38 ⟨rfl, hk39⟩
   have ht40 := Kp.tr hk39 hA hB; replace hH := Hp.kp hH hk39; replace h15 := Sl.tr h15 ht40; replace h24 := Sl.tr h24 ht40; replace hr30 := Tt hr30 ht40; replace hB := Bx hB ht40; replace hA := ht40.new
   refine Vy (Y_pick_te rfl hc36 rfl) (Mm ?_)
   rcases Be (x37) with hc41 | hc41
   ·rw [if_pos hc41] at ho28
    refine Gf hc41 (Mm (Gf hc41 (Vy (Y_mkIL underlying25 rfl) (Gf hc41 (Mm (Gf hc41 (Vy (Y_mkIL underlying25 rfl) (Gf hc41 ?_))))))))
    obtain ⟨x42, hx42, ho28⟩ := Bs ho28
    refine Vc call7 (portref2_Alike_c (Dw := False) w38 hA x11.2.1 v14 h15 x20.2.1 v23 h24 hx42) ?_
    rintro _ w43 ⟨rfl, hk44⟩
    have ht45 := Kp.tr hk44 hA hB; replace hH := Hp.kp hH hk44; replace hr30 := Tt hr30 ht45
    refine Vy (Y_pick_te rfl hc41 rfl) (As ?_)
    obtain rfl := Oi ho28
    refine V_end (fun a ha46 => ?_)
    exact ⟨A, ha46.sb, ⟨hH, hr30⟩⟩
   rw [if_neg (nt hc41)] at ho28
   refine Gm hc41 (Gm hc41 (Gm hc41 (Gm hc41 (Gm hc41 (Vy (Y_pick_fe rfl hc41 rfl) (As ?_))))))
   obtain rfl := Oi ho28
   refine V_end (fun a ha47 => ?_)
   exact ⟨A, ha47.sb, ⟨hH, hr30⟩⟩
  rw [if_neg (nt hc36)] at ho28
  refine Gm hc36 (Gm hc36 (Gm hc36 (Vy (Y_pick_fe rfl hc36 rfl) (Mm ?_))))
  rcases Be (false) with hc48 | hc48
  ·rw [if_pos hc48] at ho28
   refine Gf hc48 (Mm (Gf hc48 (Vy (Y_mkIL underlying25 rfl) (Gf hc48 (Mm (Gf hc48 (Vy (Y_mkIL underlying25 rfl) (Gf hc48 ?_))))))))
   obtain ⟨x49, hx49, ho28⟩ := Bs ho28
   refine Vc call7 (portref2_Alike_c (Dw := False) w25 hA x11.2.1 v14 h15 x20.2.1 v23 h24 hx49) ?_
   rintro _ w50 ⟨rfl, hk51⟩
   have ht52 := Kp.tr hk51 hA hB; replace hH := Hp.kp hH hk51; replace hr30 := Tt hr30 ht52
   refine Vy (Y_pick_te rfl hc48 rfl) (As ?_)
   obtain rfl := Oi ho28
   refine V_end (fun a ha53 => ?_)
   exact ⟨A, ha53.sb, ⟨hH, hr30⟩⟩
  rw [if_neg (nt hc48)] at ho28
  refine Gm hc48 (Gm hc48 (Gm hc48 (Gm hc48 (Gm hc48 (Vy (Y_pick_fe rfl hc48 rfl) (As ?_))))))
  obtain rfl := Oi ho28
  refine V_end (fun a ha54 => ?_)
  exact ⟨A, ha54.sb, ⟨hH, hr30⟩⟩
 rintro A34 w31 ⟨hH35, hk32⟩ a ha33
 replace hK := Tr.trans hK hk32; replace hA := hk32.new; replace hH := hH35
 refine C_at (n := ⟨56, [], none⟩) (fun _ _ => rfl) ?_ ha33
 obtain rfl := Oi hm
 refine Rt (Res.one results3 rfl) ?_
 exact ⟨rfl, hK.kp⟩
end Go.Proofs.YtfbnaobiondblaaGreatDoor.W
