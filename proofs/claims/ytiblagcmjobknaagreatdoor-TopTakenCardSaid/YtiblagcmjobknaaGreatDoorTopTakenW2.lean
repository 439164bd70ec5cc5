import Derived.Test.YtiblagcmjobknaaGreatDoorTopTakenW1
namespace Go.Proofs.YtiblagcmjobknaaGreatDoor.W
open Go Go.RowKit Go.Pu Go.Gw Go.Proofs Go.Proofs.YtiblagcmjobknaaGreatDoor.M
set_option linter.unusedVariables false
set_option linter.unusedSimpArgs false
variable {Dw : Prop}
set_option maxHeartbeats 4000000
set_option maxRecDepth 4000
open Tryz
theorem zaX (w : World) {A : Nat → Prop} {B : Nat} (hB : B ≤ w.heap.size) (hA : ∀ b, w.heap.size ≤ b → A b) (r_ : ze) (b_r_ : Nat) (v_r_0 : Value) (h_r_0 : Sl A w v_r_0 r_.assigner.people) (v_r_1 : Value) (h_r_1 : Sl A w v_r_1 r_.assigner.cals) (v_r_2 : Value) (h_r_2 : Sl A w v_r_2 r_.assigner.steps) (v_r_3 : Value) (v_r_4 : Value) (h_r_4 : Sl A w v_r_4 r_.waiting) (v_r_5 : Value) (h_r_5 : Sl A w v_r_5 r_.held) (m_r_0 : Nat) (m : Int) {L : List Ob} (hH : Hp B A w (obC b_r_ [v_r_0, v_r_1, v_r_2, v_r_3, Ii r_.now, v_r_4, v_r_5, .map (some m_r_0)] 58 :: o_4 v_r_3 r_.assigner.away :: obRM (κ := Int) (α := za) m_r_0 r_.work :: L)) {r : Int} (hm : qc r_ m = some r) : Ret prog 56 #[Pt b_r_, Ii m] w fun v w' => ∃ A1 : Nat → Prop, v = Ii r ∧ Hp B A1 w' (obC b_r_ [v_r_0, v_r_1, v_r_2, v_r_3, Ii r_.now, v_r_4, v_r_5, .map (some m_r_0)] 58 :: o_4 v_r_3 r_.assigner.away :: obRM (κ := Int) (α := za) m_r_0 r_.work :: L) ∧ Tr Dw B A w A1 w' := by
 unfold qc at hm
 refine enter func56 rfl ntmps56 rfl ?_
 have hK : Tr Dw B A w A w := Tr.refl (Dw := Dw) hA
 refine Sr (As (To ?_))
 refine zh (Sr (Mm (Nc (Vy (Fc 5 underlying58 rfl sizeOf25 rfl rfl) (Ld (Hc 5 0 hH rfl rfl) isAgg25 (Vy (zA h_r_4 rfl underlying25 rfl) (Vy (ql rfl rfl) (To ?_))))))))
 refine Cc (fun hc14 => ?_) fun hc14 => ?_
 ·rw [if_pos hc14] at hm
  refine Sr (As (To ?_))
  obtain rfl := Oi hm
  refine Rt (Res.one results56 rfl) ?_
  exact ⟨A, rfl, hH, hK⟩
 rw [if_neg (nt hc14)] at hm
 refine Sk ?_
 refine Sr (Mm (Mm ?_))
 replace hH := Hf 2 (Hf 2 (Hf 2 hH))
 obtain ⟨x15, hx15, hm⟩ := Bs hm
 refine Vc call85 (zcN (Dw := Dw) w hB hA r_ b_r_ v_r_0 h_r_0 v_r_1 h_r_1 v_r_2 h_r_2 v_r_3 v_r_4 h_r_4 v_r_5 h_r_5 m_r_0 m hH hx15) ?_
 rintro _ w17 ⟨A18, rfl, hH19, ht20⟩
 obtain ⟨h_r_2, h_r_4, hK, hB, hA⟩ := U2 ht20 hK hB h_r_2 h_r_4
 replace hH := hH19
 refine As (To ?_)
 refine zh (Sr (Mm (Nc (Vy (Fc 5 underlying58 rfl sizeOf25 rfl rfl) (Ld (Hc 5 0 hH rfl rfl) isAgg25 (Vy (zA h_r_4 rfl underlying25 rfl) (Mm (To ?_))))))))
 have hn41 := Sl.le h_r_4
 obtain ⟨o21, ho21, hm⟩ := Bs hm
 refine zu (ι := (Int × (Nat → Prop))) (fun ⟨s22, A28⟩ => [(5, Ii s22)]) (fun ⟨s22, A28⟩ => fun w' => o21 = .fin s22 ∧ Hp B A28 w' (obC b_r_ [v_r_0, v_r_1, v_r_2, v_r_3, Ii r_.now, v_r_4, v_r_5, .map (some m_r_0)] 58 :: o_4 v_r_3 r_.assigner.away :: obRM (κ := Int) (α := za) m_r_0 r_.work :: L) ∧ Tr Dw B A18 w17 A28 w') ?_ ?_
 ·refine zl ?_
  refine zS ho21 (fun k24 s30 a w' => ∃ i : (Nat → Prop), Has ⟨60, [], none⟩ a ([(0, Pt b_r_), (1, Ii m), (5, Ii s30), (23, v_r_4), (24, Ii (r_.waiting.length : Int)), (25, Ii (k24 : Int))]) ∧ Hp B i w' (obC b_r_ [v_r_0, v_r_1, v_r_2, v_r_3, Ii r_.now, v_r_4, v_r_5, .map (some m_r_0)] 58 :: o_4 v_r_3 r_.assigner.away :: obRM (κ := Int) (α := za) m_r_0 r_.work :: L) ∧ Tr Dw B A18 w17 i w') (fun a ha => ⟨A18, ha.sb, ⟨hH, Tr.refl (Dw := Dw) hA⟩⟩) ?_
  rintro K k24 s30 a w31 ⟨A32, ha134, hH33, hr23⟩ hle37 K40 h39
  refine C_of ?_ ha134
  replace hB := Bx hB hr23; replace hA := hr23.new
  obtain ⟨h_r_4, h_r_2⟩ := T2 hr23 h_r_4 h_r_2
  replace hH := hH33
  refine Sr (Vy (zR rfl rfl) (To ?_))
  refine zh ?_
  refine Cc (fun hc42 => ?_) fun hc42 => ?_
  ·have hlt38 := zL hc42
   obtain ⟨x34, h35, h36⟩ := K40 hlt38
   refine Sk ?_
   refine zh ?_
   obtain ⟨s44, ho43, h35⟩ := Bs h35
   refine zu (ι := (Nat → Prop)) (fun (A49 : (Nat → Prop)) => [(0, Pt b_r_), (1, Ii m), (5, Ii s44), (23, v_r_4), (24, Ii (r_.waiting.length : Int)), (25, Ii (k24 : Int))]) (fun (A49 : (Nat → Prop)) => fun w' => Hp B A49 w' (obC b_r_ [v_r_0, v_r_1, v_r_2, v_r_3, Ii r_.now, v_r_4, v_r_5, .map (some m_r_0)] 58 :: o_4 v_r_3 r_.assigner.away :: obRM (κ := Int) (α := za) m_r_0 r_.work :: L) ∧ Tr Dw B A32 w31 A49 w') ?_ ?_
   ·have hr45 : Tr Dw B A32 w31 A32 w31 := Tr.refl (Dw := Dw) hA
    refine zl (Sr ?_)
    obtain ⟨x51, hx51, ho43⟩ := Bs ho43
    refine zy h_r_4 hx51 underlying25 sizeOf38 rfl rfl rfl ?_
    intro b52 o53 h54
    obtain ⟨v55, h57, h56⟩ := Zt h54
    refine Vy (zx h57 isAgg38 sizeOf38 rfl) ?_
    refine Zf zeroValue38 rfl ?_
    intro b58 w59 h60
    have h65 := Sl.oc h56
    refine Sn h60 sizeOf38 ?_
    intro w61 h62
    have hk67 := h62.kp (Dw := Dw)
    have h66 : El (α := za) A32 w61 b58 0 x51 := h62.el hA ⟨[Ii x51.ticket], _, rfl, rfl, ⟨[Ii x51.weight], _, rfl, rfl, ⟨[Ii x51.urgency], _, rfl, rfl, ⟨[Ii x51.since], _, rfl, rfl, ⟨[Ii x51.former], _, rfl, rfl, ⟨_, rfl, h56⟩⟩⟩⟩⟩⟩
    have ht68 := Kp.tr hk67 hA hB; replace hH := Hp.kp hH hk67; replace h_r_2 := Sl.tr h_r_2 ht68; replace hr45 := Tt hr45 ht68; replace hB := Bx hB ht68; replace hA := ht68.new
    refine To ?_
    refine Sr (Mm (Nc (Vy (Fc 0 underlying58 rfl sizeOf56 rfl rfl) (Vy (Fc 2 underlying56 rfl sizeOf24 rfl rfl) (Ld (Hc 2 0 hH rfl rfl) isAgg24 (Vy (zA h_r_2 rfl underlying24 rfl) (Mm (To ?_))))))))
    have hn89 := Sl.le h_r_2
    obtain ⟨o69, ho69, ho43⟩ := Bs ho43
    refine zu (ι := (Int × (Nat → Prop))) (fun ⟨s70, A76⟩ => [(0, Pt b_r_), (1, Ii m), (5, Ii s70), (23, v_r_4), (24, Ii (r_.waiting.length : Int)), (25, Ii (k24 : Int))]) (fun ⟨s70, A76⟩ => fun w' => o69 = .fin s70 ∧ Hp B A76 w' (obC b_r_ [v_r_0, v_r_1, v_r_2, v_r_3, Ii r_.now, v_r_4, v_r_5, .map (some m_r_0)] 58 :: o_4 v_r_3 r_.assigner.away :: obRM (κ := Int) (α := za) m_r_0 r_.work :: L) ∧ Tr Dw B A32 w61 A76 w') ?_ ?_
    ·refine zl ?_
     refine zS ho69 (fun k72 s78 a w' => ∃ i : (Nat → Prop), Has ⟨60, [], none⟩ a ([(0, Pt b_r_), (1, Ii m), (5, Ii s78), (7, Pt b58), (23, v_r_4), (24, Ii (r_.waiting.length : Int)), (25, Ii (k24 : Int)), (33, v_r_2), (34, Ii (r_.assigner.steps.length : Int)), (35, Ii (k72 : Int))]) ∧ Hp B i w' (obC b_r_ [v_r_0, v_r_1, v_r_2, v_r_3, Ii r_.now, v_r_4, v_r_5, .map (some m_r_0)] 58 :: o_4 v_r_3 r_.assigner.away :: obRM (κ := Int) (α := za) m_r_0 r_.work :: L) ∧ Tr Dw B A32 w61 i w') (fun a ha => ⟨A32, ha.sb, ⟨hH, Tr.refl (Dw := Dw) hA⟩⟩) ?_
     rintro K k72 s78 a w79 ⟨A80, ha130, hH81, hr71⟩ hle85 K88 h87
     refine C_of ?_ ha130
     replace h66 := El.tr h66 hr71; replace h_r_2 := Sl.tr h_r_2 hr71; replace hB := Bx hB hr71; replace hA := hr71.new; replace hH := hH81
     refine Sr (Vy (zR rfl rfl) (To ?_))
     refine zh ?_
     refine Cc (fun hc90 => ?_) fun hc90 => ?_
     ·have hlt86 := zL hc90
      obtain ⟨x82, h83, h84⟩ := K88 hlt86
      refine Sk ?_
      refine zh ?_
      obtain ⟨s92, ho91, h83⟩ := Bs h83
      refine zu (ι := (Nat → Prop)) (fun (A97 : (Nat → Prop)) => [(0, Pt b_r_), (1, Ii m), (5, Ii s92), (7, Pt b58), (23, v_r_4), (24, Ii (r_.waiting.length : Int)), (25, Ii (k24 : Int)), (33, v_r_2), (34, Ii (r_.assigner.steps.length : Int)), (35, Ii (k72 : Int))]) (fun (A97 : (Nat → Prop)) => fun w' => Hp B A97 w' (obC b_r_ [v_r_0, v_r_1, v_r_2, v_r_3, Ii r_.now, v_r_4, v_r_5, .map (some m_r_0)] 58 :: o_4 v_r_3 r_.assigner.away :: obRM (κ := Int) (α := za) m_r_0 r_.work :: L) ∧ Tr Dw B A80 w79 A97 w') ?_ ?_
      ·have hr93 : Tr Dw B A80 w79 A80 w79 := Tr.refl (Dw := Dw) hA
       refine zl (Sr ?_)
       obtain ⟨x99, hx99, ho91⟩ := Bs ho91
       refine zy h_r_2 hx99 underlying24 sizeOf83 rfl rfl rfl ?_
       intro b100 o101 h102
       obtain ⟨h103, _⟩ := zdS h102
       refine Vy (zx h103 isAgg83 sizeOf83 rfl) ?_
       refine Zf zeroValue83 rfl ?_
       intro b104 w105 h106
       refine Sn h106 sizeOf83 ?_
       intro w107 h108
       have hk110 := h108.kp (Dw := Dw)
       have h109 : El (α := zk) A80 w107 b104 0 x99 := h108.el hA ⟨[Ii x99.after], _, rfl, rfl, ⟨[Ii x99.lower], _, rfl, rfl, rfl⟩⟩
       have ht111 := Kp.tr hk110 hA hB; replace hH := Hp.kp hH hk110; replace h66 := El.tr h66 ht111; replace hr93 := Tt hr93 ht111
       refine To ?_
       refine Sr ?_
       have h112 := Ja h66
       refine Fa underlying38 rfl sizeOf3 (Li h112 isAgg3 ?_)
       have h113 := Je h109
       refine Fa underlying83 rfl sizeOf3 (Li h113 isAgg3 (Vy (zN rfl rfl) (As (To ?_))))
       refine Sr (Mm (Mm (Vy (qz rfl rfl) (Mm ?_))))
       refine ZP 8 (fun _ : Unit => [(0, Pt b_r_), (1, Ii m), (5, Ii s78), (7, Pt b58), (10, Ii (w64 (x51.since + x99.after))), (23, v_r_4), (24, Ii (r_.waiting.length : Int)), (25, Ii (k24 : Int)), (33, v_r_2), (34, Ii (r_.assigner.steps.length : Int)), (35, Ii (k72 : Int)), (55, .bool ((decide (m < (w64 (x51.since + x99.after)))) && ((decide (s78 < 0)) || (decide ((w64 (x51.since + x99.after)) < s78)))))]) (fun _ w' => w107 = w') ?_ ?_
       ·simp only [List.take, List.drop]
        rcases Be (decide (m < (w64 (x51.since + x99.after)))) with hc114 | hc114
        ·refine Gf hc114 (Mm (Gf hc114 (Vy (zR rfl rfl) (Gf hc114 (Mm ?_)))))
         refine ZP 4 (fun _ : Unit => [(0, Pt b_r_), (1, Ii m), (5, Ii s78), (7, Pt b58), (10, Ii (w64 (x51.since + x99.after))), (23, v_r_4), (24, Ii (r_.waiting.length : Int)), (25, Ii (k24 : Int)), (33, v_r_2), (34, Ii (r_.assigner.steps.length : Int)), (35, Ii (k72 : Int)), (47, .bool (decide (m < (w64 (x51.since + x99.after))))), (54, .bool ((decide (s78 < 0)) || (decide ((w64 (x51.since + x99.after)) < s78))))]) (fun _ w' => w107 = w') ?_ ?_
         ·simp only [List.take, List.drop]
          rcases Be (decide (s78 < 0)) with hc116 | hc116
          ·refine Gm hc116 (Gm hc116 (Gm hc116 (Gf hc114 (Vy (zF rfl hc116 rfl) ?_))))
           exact zn fun a ha => ⟨(), ha.sub ⟨rfl, rfl, rfl, rfl, rfl, rfl, rfl, rfl, rfl, rfl, rfl, rfl, (by rw [hc116]; rfl), trivial⟩, rfl⟩
          refine Gf hc116 (Mm (Gf hc116 (Mm (Gf hc116 (Vy (zR rfl rfl) (Gf hc114 (Vy (zG rfl hc116 rfl) ?_)))))))
          exact zn fun a ha => ⟨(), ha.sub ⟨rfl, rfl, rfl, rfl, rfl, rfl, rfl, rfl, rfl, rfl, rfl, rfl, (by rw [hc116]; rfl), trivial⟩, rfl⟩
         simp only [List.take, List.drop]
         rintro _ _ rfl
         refine Vy (zF rfl hc114 rfl) ?_
         exact zn fun a ha => ⟨(), ha.sub ⟨rfl, rfl, rfl, rfl, rfl, rfl, rfl, rfl, rfl, rfl, rfl, (by rw [hc114]; rfl), trivial⟩, rfl⟩
        refine Gm hc114 (Gm hc114 (Gm hc114 ?_))
        refine V_gu rfl rfl rfl rfl rfl ?_
        refine V_gu rfl rfl rfl rfl rfl ?_
        refine V_gu rfl rfl rfl rfl rfl ?_
        refine Gm hc114 (Vy (zG rfl hc114 rfl) ?_)
        exact zn fun a ha => ⟨(), ha.sub ⟨rfl, rfl, rfl, rfl, rfl, rfl, rfl, rfl, rfl, rfl, rfl, (by rw [hc114]; rfl), trivial⟩, rfl⟩
       simp only [List.take, List.drop]
       rintro _ _ rfl
       refine To ?_
       obtain ⟨s119, ho118, ho91⟩ := Bs ho91
       refine zu (ι := Unit) (fun (_ : Unit) => [(0, Pt b_r_), (1, Ii m), (5, Ii s119), (7, Pt b58), (23, v_r_4), (24, Ii (r_.waiting.length : Int)), (25, Ii (k24 : Int)), (33, v_r_2), (34, Ii (r_.assigner.steps.length : Int)), (35, Ii (k72 : Int))]) (fun (_ : Unit) => fun w' => w107 = w') ?_ ?_
       ·refine Cc (fun hc124 => ?_) fun hc124 => ?_
        ·rw [if_pos hc124] at ho118
         refine zo (Mm (As ?_))
         obtain rfl := Oi ho118
         refine zn (fun a ha125 => ?_)
         exact ⟨(), ha125.sb, rfl⟩
        rw [if_neg (nt hc124)] at ho118
        obtain rfl := Oi ho118
        refine qL (fun a ha126 => ?_)
        exact ⟨(), ha126.sb, rfl⟩
       rintro _ _ rfl a ha123
       obtain rfl := Oi ho91
       exact ⟨A80, ha123.sb, ⟨hH, hr93⟩⟩
      rintro A97 w94 ⟨hH98, hk95⟩ a ha96
      replace hr71 := Tr.trans hr71 hk95; replace hA := hk95.new; replace hH := hH98
      refine C_at (n := ⟨60, [], none⟩) (fun _ _ => rfl) ?_ ha96
      refine zo (Vy (zN rfl rfl) (Mm ?_))
      obtain rfl := Oi h83
      refine zn (fun a ha128 => ?_)
      exact ⟨s92, hlt86, h84, ⟨A97, ha128.sub ⟨rfl, rfl, rfl, rfl, rfl, rfl, rfl, rfl, rfl, Ws hlt86 hn89, trivial⟩, ⟨hH, hr71⟩⟩⟩
     refine zQ (fun a ha129 => ?_)
     exact ⟨(s78, A80), ha129.sb, ⟨(h87 (zK hle85 hc90)).symm, hH, hr71⟩⟩
    rintro ⟨s70, A76⟩ w73 ⟨rfl, hH77, hk74⟩ a ha75
    rw [Lp.andThen_fin] at ho43
    replace hr45 := Tr.trans hr45 hk74; replace hA := hk74.new; replace hH := hH77
    obtain rfl := Oi ho43
    exact ⟨A76, ha75.sb, ⟨hH, hr45⟩⟩
   rintro A49 w46 ⟨hH50, hk47⟩ a ha48
   replace hr23 := Tr.trans hr23 hk47; replace hA := hk47.new; replace hH := hH50
   refine C_at (n := ⟨60, [], none⟩) (fun _ _ => rfl) ?_ ha48
   refine zo (Vy (zN rfl rfl) (Mm ?_))
   obtain rfl := Oi h35
   refine zn (fun a ha132 => ?_)
   exact ⟨s44, hlt38, h36, ⟨A49, ha132.sub ⟨rfl, rfl, rfl, rfl, rfl, Ws hlt38 hn41, trivial⟩, ⟨hH, hr23⟩⟩⟩
  refine zQ (fun a ha133 => ?_)
  exact ⟨(s30, A32), ha133.sb, ⟨(h39 (zK hle37 hc42)).symm, hH, hr23⟩⟩
 rintro ⟨s22, A28⟩ w25 ⟨rfl, hH29, hk26⟩ a ha27
 rw [Lp.andThen_fin] at hm
 replace hK := Tr.trans hK hk26; replace hA := hk26.new; replace hH := hH29
 refine C_at (n := ⟨60, [], none⟩) (fun _ _ => rfl) ?_ ha27
 refine Sr (Mm (As (To ?_)))
 obtain rfl := Oi hm
 refine Rt (Res.one results56 rfl) ?_
 exact ⟨A28, rfl, hH, hK⟩
theorem zdU (w : World) {A : Nat → Prop} {B : Nat} (hB : B ≤ w.heap.size) (hA : ∀ b, w.heap.size ≤ b → A b) (a_ : ze) (b_a_ : Nat) (v_a_0 : Value) (h_a_0 : Sl A w v_a_0 a_.assigner.people) (v_a_1 : Value) (h_a_1 : Sl A w v_a_1 a_.assigner.cals) (v_a_2 : Value) (h_a_2 : Sl A w v_a_2 a_.assigner.steps) (v_a_3 : Value) (v_a_4 : Value) (h_a_4 : Sl A w v_a_4 a_.waiting) (v_a_5 : Value) (h_a_5 : Sl A w v_a_5 a_.held) (m_a_0 : Nat) (held : (List zb)) (v_held : Value) (h_held : Sl A w v_held held) (m : Int) {L : List Ob} (hH : Hp B A w (obC b_a_ [v_a_0, v_a_1, v_a_2, v_a_3, Ii a_.now, v_a_4, v_a_5, .map (some m_a_0)] 58 :: o_4 v_a_3 a_.assigner.away :: obRM (κ := Int) (α := za) m_a_0 a_.work :: L)) {r : zT} (hm : jv a_ held m = some r) : Ret prog 113 #[Pt b_a_, v_held, Ii m] w fun v w' => ∃ b0, ∃ p0, ∃ p1, ∃ p2, ∃ p3, ∃ A1 : Nat → Prop, v = Pt b0 ∧ Sl A1 w' p0 r.people ∧ Hp B A1 w' (obC b0 [p0, p1, p2, p3] 184 :: o_4 p1 r.duty :: o_3 p2 r.weights :: o_3 p3 r.latest :: obC b_a_ [v_a_0, v_a_1, v_a_2, v_a_3, Ii a_.now, v_a_4, v_a_5, .map (some m_a_0)] 58 :: o_4 v_a_3 a_.assigner.away :: obRM (κ := Int) (α := za) m_a_0 a_.work :: L) ∧ Tr Dw B A w A1 w' := by
 unfold jv at hm
 refine enter func113 rfl ntmps113 rfl ?_
 have hK : Tr Dw B A w A w := Tr.refl (Dw := Dw) hA
 refine Sr (As (To ?_))
 refine zh ?_
 obtain ⟨x81, hx81, hm⟩ := Bs hm
 obtain ⟨x141, hx141, hm⟩ := Bs hm
 obtain ⟨x201, hx201, hm⟩ := Bs hm
 refine zeA (Dw := Dw) A (fun w17 a' w' => ∃ (v202 : Value) (v142 : Value) (v82 : Value), ∃ A' : Nat → Prop, Has ⟨135, [], none⟩ a' [(0, Pt b_a_), (1, v_held), (2, Ii m), (19, v_a_0), (25, v82), (31, v142), (37, v202)] ∧ Hp B A' w' (o_3 v202 x201 :: o_3 v142 x141 :: o_4 v82 x81 :: obC b_a_ [v_a_0, v_a_1, v_a_2, v_a_3, Ii a_.now, v_a_4, v_a_5, .map (some m_a_0)] 58 :: o_4 v_a_3 a_.assigner.away :: obRM (κ := Int) (α := za) m_a_0 a_.work :: L) ∧ Tr Dw B A w17 A' w') [9, 15, 21] [(0, 0), (0, 1), (0, 2), (0, 3), (0, 4), (0, 5), (0, 6), (0, 7), (0, 8), (0, 10), (0, 11), (0, 12), (0, 13), (0, 14), (0, 16), (0, 17), (0, 18), (0, 19), (0, 20)] [(0, 22), (2, 23), (0, 24)] zH (by kernel_rfl) (fun w17 hk18 => ?_) (fun w17 hk18 => ?_)
 ·have ht19 := Kp.tr hk18 hA hB
  replace hH := Hp.kp hH hk18; replace hB := Bx hB ht19; replace hA := ht19.new
  obtain ⟨h_held, h_a_0⟩ := T2 ht19 h_held h_a_0
  refine Qy rfl (Qm (qm (Qy rfl (Qn (qm (Qy rfl (Qv (fun w' hw' => Fc 0 underlying56 rfl sizeOf22 rfl rfl) (qm (Qy rfl ?_)))))))))
  refine Qc (Hc 0 0 hH rfl rfl) isAgg22 (qm (Qy rfl (Qm (qm (Qy rfl (Qn (qm (Qy rfl (Qv (fun w' hw' => Fc 0 underlying56 rfl sizeOf22 rfl rfl) ?_)))))))))
  refine qm (Qy rfl (Qc (Hc 0 0 hH rfl rfl) isAgg22 (qm (Qy rfl (Qv (fun w' hw' => zA h_a_0 rfl underlying22 rfl) (qm (Qy rfl (Qm (qm ?_)))))))))
  refine Qy rfl (Qn (qm (Qy rfl (Qv (fun w' hw' => Fc 0 underlying56 rfl sizeOf22 rfl rfl) (qm (Qy rfl (Qc (Hc 0 0 hH rfl rfl) isAgg22 (qm (Qy rfl ?_)))))))))
  refine Qm (qm (Qy rfl (Qm (qm (Qy rfl (Qn (qm (Qy rfl (Qv (fun w' hw' => Fc 0 underlying56 rfl sizeOf22 rfl rfl) ?_)))))))))
  refine qm (Qy rfl (Qc (Hc 0 0 hH rfl rfl) isAgg22 (qm (Qy rfl (Qv (fun w' hw' => zA h_a_0 rfl underlying22 rfl) (qm ?_))))))
  refine ziL ?_
  have hT20 : Tr Dw B A w17 A w17 := Tr.refl (Dw := Dw) hA
  refine zmc rfl rfl rfl rfl rfl rfl ?_ ?_ ?_
  ·refine jl (Dw := Dw) (B := w17.heap.size) (L := []) (e := 4) (ti := t4) Hp.nil hx81 (fun _ _ => rfl) underlying54 jV rfl rfl rfl (by decide) (by decide) (Nat.le_refl _) hA rfl rfl rfl ?_
   intro v82 w83 A84 hH85 ht86
   have hk87 : Kp Dw w17 w83 := ht86.below
   have hH88 := Hp.join (Dw := Dw) hH hB ht86 hH85
   have ht89 := Tr.lower (Dw := Dw) ht86 hB
   replace hT20 := Tt hT20 ht89; replace hB := Bx hB ht89; replace hA := ht89.new
   obtain ⟨h_held, h_a_0⟩ := T2 ht89 h_held h_a_0
   replace hH := hH88
   refine jA (hk87) ?_
   refine zhf rfl rfl rfl rfl ?_ ?_
   ·refine Vc call75 (Qu (Dw := Dw) w83 hA a_.assigner.people v_a_0 h_a_0 held v_held h_held hx141) ?_
    rintro v142 w144 ⟨_, rfl, h143, hk145⟩
    obtain ⟨A146, ht147, hH148⟩ := Hp.addOwnd (Dw := Dw) hH hB hA hk145 h143
    replace hT20 := Tt hT20 ht147; replace hB := Bx hB ht147; replace hA := ht147.new; replace hH := hH148
    refine jA (hk145) ?_
    refine zco rfl rfl ?_
    refine jl (Dw := Dw) (B := w144.heap.size) (L := []) (e := 3) (ti := t3) Hp.nil hx201 (fun _ _ => rfl) underlying26 QY rfl rfl rfl (by decide) (by decide) (Nat.le_refl _) hA rfl rfl rfl ?_
    intro v202 w203 A204 hH205 ht206
    have hk207 : Kp Dw w144 w203 := ht206.below
    have hH208 := Hp.join (Dw := Dw) hH hB ht206 hH205
    have ht209 := Tr.lower (Dw := Dw) ht206 hB
    replace hT20 := Tt hT20 ht209; replace hH := hH208
    refine jA (hk207) ?_
    exact zcr (fun a ha => ⟨v202, v142, v82, A204, ha.sb, hH, hT20⟩)
   refine jl (Dw := Dw) (B := w83.heap.size) (L := []) (e := 3) (ti := t3) Hp.nil hx201 (fun _ _ => rfl) underlying26 QY rfl rfl rfl (by decide) (by decide) (Nat.le_refl _) hA rfl rfl rfl ?_
   intro v202 w203 A204 hH205 ht206
   have hk207 : Kp Dw w83 w203 := ht206.below
   have hH208 := Hp.join (Dw := Dw) hH hB ht206 hH205
   have ht209 := Tr.lower (Dw := Dw) ht206 hB
   replace hT20 := Tt hT20 ht209; replace hB := Bx hB ht209; replace hA := ht209.new
   obtain ⟨h_held, h_a_0⟩ := T2 ht209 h_held h_a_0
   replace hH := hH208
   refine jA (hk207) ?_
   refine zco rfl rfl ?_
   refine Vc call75 (Qu (Dw := Dw) w203 hA a_.assigner.people v_a_0 h_a_0 held v_held h_held hx141) ?_
   rintro v142 w144 ⟨_, rfl, h143, hk145⟩
   obtain ⟨A146, ht147, hH148⟩ := Hp.addOwnd (Dw := Dw) hH hB hA hk145 h143
   replace hT20 := Tt hT20 ht147; replace hH := hH148
   refine jA (hk145) ?_
   replace hH := Hf 5 (Hf 4 (Hf 5 (Hf 5 (Hf 5 (Hf 5 hH)))))
   exact zcr (fun a ha => ⟨v202, v142, v82, A146, ha.sb, hH, hT20⟩)
  ·refine Vc call75 (Qu (Dw := Dw) w17 hA a_.assigner.people v_a_0 h_a_0 held v_held h_held hx141) ?_
   rintro v142 w144 ⟨_, rfl, h143, hk145⟩
   obtain ⟨A146, ht147, hH148⟩ := Hp.addOwnd (Dw := Dw) hH hB hA hk145 h143
   replace hT20 := Tt hT20 ht147; replace hB := Bx hB ht147; replace hA := ht147.new; replace hH := hH148
   refine jA (hk145) ?_
   refine zhf rfl rfl rfl rfl ?_ ?_
   ·refine jl (Dw := Dw) (B := w144.heap.size) (L := []) (e := 4) (ti := t4) Hp.nil hx81 (fun _ _ => rfl) underlying54 jV rfl rfl rfl (by decide) (by decide) (Nat.le_refl _) hA rfl rfl rfl ?_
    intro v82 w83 A84 hH85 ht86
    have hk87 : Kp Dw w144 w83 := ht86.below
    have hH88 := Hp.join (Dw := Dw) hH hB ht86 hH85
    have ht89 := Tr.lower (Dw := Dw) ht86 hB
    replace hT20 := Tt hT20 ht89; replace hB := Bx hB ht89; replace hA := ht89.new; replace hH := hH88
    refine jA (hk87) ?_
    refine zco rfl rfl ?_
    refine jl (Dw := Dw) (B := w83.heap.size) (L := []) (e := 3) (ti := t3) Hp.nil hx201 (fun _ _ => rfl) underlying26 QY rfl rfl rfl (by decide) (by decide) (Nat.le_refl _) hA rfl rfl rfl ?_
    intro v202 w203 A204 hH205 ht206
    have hk207 : Kp Dw w83 w203 := ht206.below
    have hH208 := Hp.join (Dw := Dw) hH hB ht206 hH205
    have ht209 := Tr.lower (Dw := Dw) ht206 hB
    replace hT20 := Tt hT20 ht209; replace hH := hH208
    refine jA (hk207) ?_
    replace hH := Hf 5 (Hf 5 (Hf 4 (Hf 5 (Hf 5 (Hf 5 hH)))))
    exact zcr (fun a ha => ⟨v202, v142, v82, A204, ha.sb, hH, hT20⟩)
   refine jl (Dw := Dw) (B := w144.heap.size) (L := []) (e := 3) (ti := t3) Hp.nil hx201 (fun _ _ => rfl) underlying26 QY rfl rfl rfl (by decide) (by decide) (Nat.le_refl _) hA rfl rfl rfl ?_
   intro v202 w203 A204 hH205 ht206
   have hk207 : Kp Dw w144 w203 := ht206.below
   have hH208 := Hp.join (Dw := Dw) hH hB ht206 hH205
   have ht209 := Tr.lower (Dw := Dw) ht206 hB
   replace hT20 := Tt hT20 ht209; replace hB := Bx hB ht209; replace hA := ht209.new; replace hH := hH208
   refine jA (hk207) ?_
   refine zco rfl rfl ?_
   refine jl (Dw := Dw) (B := w203.heap.size) (L := []) (e := 4) (ti := t4) Hp.nil hx81 (fun _ _ => rfl) underlying54 jV rfl rfl rfl (by decide) (by decide) (Nat.le_refl _) hA rfl rfl rfl ?_
   intro v82 w83 A84 hH85 ht86
   have hk87 : Kp Dw w203 w83 := ht86.below
   have hH88 := Hp.join (Dw := Dw) hH hB ht86 hH85
   have ht89 := Tr.lower (Dw := Dw) ht86 hB
   replace hT20 := Tt hT20 ht89; replace hH := hH88
   refine jA (hk87) ?_
   replace hH := Hf 5 (Hf 5 (Hf 3 (Hf 5 (Hf 5 (Hf 5 hH)))))
   exact zcr (fun a ha => ⟨v202, v142, v82, A84, ha.sb, hH, hT20⟩)
  refine jl (Dw := Dw) (B := w17.heap.size) (L := []) (e := 3) (ti := t3) Hp.nil hx201 (fun _ _ => rfl) underlying26 QY rfl rfl rfl (by decide) (by decide) (Nat.le_refl _) hA rfl rfl rfl ?_
  intro v202 w203 A204 hH205 ht206
  have hk207 : Kp Dw w17 w203 := ht206.below
  have hH208 := Hp.join (Dw := Dw) hH hB ht206 hH205
  have ht209 := Tr.lower (Dw := Dw) ht206 hB
  replace hT20 := Tt hT20 ht209; replace hB := Bx hB ht209; replace hA := ht209.new
  obtain ⟨h_held, h_a_0⟩ := T2 ht209 h_held h_a_0
  replace hH := hH208
  refine jA (hk207) ?_
  refine zhf rfl rfl rfl rfl ?_ ?_
  ·refine jl (Dw := Dw) (B := w203.heap.size) (L := []) (e := 4) (ti := t4) Hp.nil hx81 (fun _ _ => rfl) underlying54 jV rfl rfl rfl (by decide) (by decide) (Nat.le_refl _) hA rfl rfl rfl ?_
   intro v82 w83 A84 hH85 ht86
   have hk87 : Kp Dw w203 w83 := ht86.below
   have hH88 := Hp.join (Dw := Dw) hH hB ht86 hH85
   have ht89 := Tr.lower (Dw := Dw) ht86 hB
   replace hT20 := Tt hT20 ht89; replace hB := Bx hB ht89; replace hA := ht89.new
   obtain ⟨h_held, h_a_0⟩ := T2 ht89 h_held h_a_0
   replace hH := hH88
   refine jA (hk87) ?_
   refine zco rfl rfl ?_
   refine Vc call75 (Qu (Dw := Dw) w83 hA a_.assigner.people v_a_0 h_a_0 held v_held h_held hx141) ?_
   rintro v142 w144 ⟨_, rfl, h143, hk145⟩
   obtain ⟨A146, ht147, hH148⟩ := Hp.addOwnd (Dw := Dw) hH hB hA hk145 h143
   replace hT20 := Tt hT20 ht147; replace hH := hH148
   refine jA (hk145) ?_
   replace hH := Hf 5 (Hf 4 (Hf 4 (Hf 5 (Hf 5 (Hf 5 hH)))))
   exact zcr (fun a ha => ⟨v202, v142, v82, A146, ha.sb, hH, hT20⟩)
  refine Vc call75 (Qu (Dw := Dw) w203 hA a_.assigner.people v_a_0 h_a_0 held v_held h_held hx141) ?_
  rintro v142 w144 ⟨_, rfl, h143, hk145⟩
  obtain ⟨A146, ht147, hH148⟩ := Hp.addOwnd (Dw := Dw) hH hB hA hk145 h143
  replace hT20 := Tt hT20 ht147; replace hB := Bx hB ht147; replace hA := ht147.new; replace hH := hH148
  refine jA (hk145) ?_
  refine zco rfl rfl ?_
  refine jl (Dw := Dw) (B := w144.heap.size) (L := []) (e := 4) (ti := t4) Hp.nil hx81 (fun _ _ => rfl) underlying54 jV rfl rfl rfl (by decide) (by decide) (Nat.le_refl _) hA rfl rfl rfl ?_
  intro v82 w83 A84 hH85 ht86
  have hk87 : Kp Dw w144 w83 := ht86.below
  have hH88 := Hp.join (Dw := Dw) hH hB ht86 hH85
  have ht89 := Tr.lower (Dw := Dw) ht86 hB
  replace hT20 := Tt hT20 ht89; replace hH := hH88
  refine jA (hk87) ?_
  replace hH := Hf 5 (Hf 4 (Hf 3 (Hf 5 (Hf 5 (Hf 5 hH)))))
  exact zcr (fun a ha => ⟨v202, v142, v82, A84, ha.sb, hH, hT20⟩)
 have ht321 := Kp.tr hk18 hA hB; replace hH := Hp.kp hH hk18
 obtain ⟨h_held, h_a_0, h_a_1, hK, hB, hA⟩ := U3 ht321 hK hB h_held h_a_0 h_a_1
 rintro a w320 ⟨v202, v142, v82, A210, ha320, hH320, ht320⟩
 obtain ⟨h_held, h_a_0, h_a_1, hK, hB, hA⟩ := U3 ht320 hK hB h_held h_a_0 h_a_1
 replace hH := hH320
 refine (?_ : CH Dw _ ⟨135, [], none⟩ _ A _ [(0, 22), (2, 23), (0, 24)] [(0, Pt b_a_), (1, v_held), (2, Ii m), (19, v_a_0), (25, v82), (31, v142), (37, v202)] w320) a ha320
 refine qF rfl ?_
 refine Qv (fun w' hw' => zaz (cells := #[v_a_0, v82, v142, v202]) underlying184 zeroValue184 (zgb _ underlying184) rfl (by obtain ⟨a322, c323, e324, _⟩ := Sl.form h_a_0; subst e324; obtain ⟨a325, c326, e327, _⟩ := Sl.form (Hp.any (α := Bool) (e := 4) (v := v82) (l := x81) hH (i := 2) rfl); subst e327; obtain ⟨a328, c329, e330, _⟩ := Sl.form (Hp.any (α := Int) (e := 3) (v := v142) (l := x141) hH (i := 1) rfl); subst e330; obtain ⟨a331, c332, e333, _⟩ := Sl.form (Hp.any (α := Int) (e := 3) (v := v202) (l := x201) hH (i := 0) rfl); subst e333; with_unfolding_all rfl)) (zB ?_)
 refine qw (k := 0) rfl ?_
 refine zle (Dw := Dw) (B := B) hH rfl hB hA rfl ?_
 intro b334 w335 A336 hk339 hH337 ht338
 obtain ⟨h_held, h_a_0, h_a_1, hK, hB, hA⟩ := U3 ht338 hK hB h_held h_a_0 h_a_1
 replace hH := hH337
 refine V_CH (hk339) ?_
 refine qF rfl (Qa (zB ?_))
 refine jC ?_
 show V _ _ _ _ [] _ _
 refine To ?_
 refine Sr (Mm (Nc (Vy (Fc 1 underlying56 rfl sizeOf23 rfl rfl) (Ld (Hc 1 4 hH rfl rfl) isAgg23 (Vy (zA h_a_1 rfl underlying23 rfl) ?_)))))
 obtain ⟨x340, hx340, hm⟩ := Bs hm
 refine jl (Dw := Dw) (e := 4) (ti := t4) hH hx340 (fun _ _ => rfl) underlying54 jV rfl rfl rfl (by decide) (by decide) hB hA rfl rfl rfl ?_
 intro v341 w342 A343 hH344 ht345
 obtain ⟨h_held, h_a_1, h_a_0, hK, hB, hA⟩ := U3 ht345 hK hB h_held h_a_1 h_a_0
 replace hH := hH344
 refine As (To ?_)
 refine zh (Sr (Mm (Nc (Vy (Fc 1 underlying56 rfl sizeOf23 rfl rfl) (Ld (Hc 1 5 hH rfl rfl) isAgg23 (Vy (zA h_a_1 rfl underlying23 rfl) (Mm (To ?_))))))))
 have hn370 := Sl.le h_a_1
 obtain ⟨o346, ho346, hm⟩ := Bs hm
 refine zu (ι := ((List Bool) × Value × (Nat → Prop))) (fun ⟨s347, v353, A355⟩ => [(0, Pt b_a_), (1, v_held), (7, Pt b334), (8, v353)]) (fun ⟨s347, v353, A355⟩ => fun w' => o346 = .fin s347 ∧ Hp B A355 w' (o_4 v353 s347 :: obC b334 [v_a_0, v82, v142, v202] 184 :: o_3 v202 x201 :: o_3 v142 x141 :: o_4 v82 x81 :: obC b_a_ [v_a_0, v_a_1, v_a_2, v_a_3, Ii a_.now, v_a_4, v_a_5, .map (some m_a_0)] 58 :: o_4 v_a_3 a_.assigner.away :: obRM (κ := Int) (α := za) m_a_0 a_.work :: L) ∧ Tr Dw B A343 w342 A355 w') ?_ ?_
 ·refine zl ?_
  refine zS ho346 (fun k349 s357 a w' => ∃ i : (Value × (Nat → Prop)), Has ⟨135, [], none⟩ a ([(0, Pt b_a_), (1, v_held), (2, Ii m), (7, Pt b334), (8, i.1), (49, v_a_1), (50, Ii (a_.assigner.cals.length : Int)), (51, Ii (k349 : Int))]) ∧ Hp B i.2 w' (o_4 i.1 s357 :: obC b334 [v_a_0, v82, v142, v202] 184 :: o_3 v202 x201 :: o_3 v142 x141 :: o_4 v82 x81 :: obC b_a_ [v_a_0, v_a_1, v_a_2, v_a_3, Ii a_.now, v_a_4, v_a_5, .map (some m_a_0)] 58 :: o_4 v_a_3 a_.assigner.away :: obRM (κ := Int) (α := za) m_a_0 a_.work :: L) ∧ Tr Dw B A343 w342 i.2 w') (fun a ha => ⟨(v341, A343), ha.sb, ⟨hH, Tr.refl (Dw := Dw) hA⟩⟩) ?_
  rintro K k349 s357 a w358 ⟨⟨v359, A361⟩, ha422, hH362, hr348⟩ hle366 K369 h368
  refine C_of ?_ ha422
  replace h_a_1 := Sl.tr h_a_1 hr348; replace hB := Bx hB hr348; replace hA := hr348.new; replace hH := hH362
  refine Sr (Vy (zR rfl rfl) (To ?_))
  refine zh ?_
  refine Cc (fun hc371 => ?_) fun hc371 => ?_
  ·have hlt367 := zL hc371
   obtain ⟨x363, h364, h365⟩ := K369 hlt367
   refine Sk ?_
   refine zh (zl (Sr (Mm ?_)))
   obtain ⟨x372, hx372, h364⟩ := Bs h364
   refine zy h_a_1 hx372 underlying23 sizeOf71 rfl rfl rfl ?_
   intro b373 o374 h375
   obtain ⟨v376, v378, v380, h382, h377, h379, h381⟩ := Zg h375
   refine Vy (zx h382 isAgg71 sizeOf71 rfl) ?_
   refine Zf zeroValue71 rfl ?_
   intro b383 w384 h385
   refine As ?_
   have h390 := Sl.oc h377
   have h393 := Sl.oc h379
   have h396 := Sl.oc h381
   refine Sn h385 sizeOf71 ?_
   intro w386 h387
   have hk398 := h387.kp (Dw := Dw)
   have h397 : El (α := zg) A361 w386 b383 0 x372 := h387.el hA ⟨[Ii x372.zone.offset, v376], _, rfl, ⟨[Ii x372.zone.offset], _, rfl, rfl, ⟨_, rfl, h377⟩⟩, ⟨[v378], _, rfl, ⟨_, rfl, h379⟩, ⟨_, rfl, h381⟩⟩⟩
   have ht399 := Kp.tr hk398 hA hB; replace hH := Hp.kp hH hk398; replace hr348 := Tt hr348 ht399; replace hB := Bx hB ht399; replace hA := ht399.new
   refine To ?_
   refine zo (Mm (Mm ?_))
   obtain ⟨v400, v402, v404, h406, h401, h403, h405⟩ := Zg h397
   refine Vy (zx h406 isAgg71 sizeOf71 rfl) (Mm ?_)
   obtain ⟨x407, hx407, h364⟩ := Bs h364
   refine Vc call72 (zdo (Dw := Dw) w386 hA x372 v400 h401 v402 h403 v404 h405 m hx407) ?_
   rintro _ w408 ⟨rfl, hk409⟩
   have ht410 := Kp.tr hk409 hA hB; replace hH := Hp.kp hH hk409; replace hr348 := Tt hr348 ht410; replace hB := Bx hB ht410; replace hA := ht410.new
   refine Mm (Vy (zD rfl rfl) (Vy (zD rfl rfl) ?_))
   obtain ⟨x411, hx411, h364⟩ := Bs h364
   refine ZQ (α := Bool) (e := 4) (v := v359) (l := s357) hH (i := 0) rfl hx411 underlying54 sizeOf4 rfl rfl rfl ?_
   intro b412 o413 h414 hl415
   obtain ⟨x416, hx416, h364⟩ := Bs h364
   refine jI (Dw := Dw) (α := Bool) (e := 4) (v := v359) (l := s357) hH (i := 0) rfl hl415 hx416 rfl sizeOf4 rfl hB hA rfl rfl ?_
   intro w417 hH418 ht419
   replace hr348 := Tt hr348 ht419; replace hH := hH418
   refine To ?_
   refine zo (Vy (zN rfl rfl) (Mm ?_))
   obtain rfl := Oi h364
   refine zn (fun a ha420 => ?_)
   exact ⟨x416, hlt367, h365, ⟨(v359, A361), ha420.sub ⟨rfl, rfl, rfl, rfl, rfl, rfl, rfl, Ws hlt367 hn370, trivial⟩, ⟨hH, hr348⟩⟩⟩
  refine zQ (fun a ha421 => ?_)
  exact ⟨(s357, v359, A361), ha421.sb, ⟨(h368 (zK hle366 hc371)).symm, hH, hr348⟩⟩
 rintro ⟨s347, v353, A355⟩ w350 ⟨rfl, hH356, hk351⟩ a ha352
 rw [Lp.andThen_fin] at hm
 replace h_held := Sl.tr h_held hk351; replace h_a_0 := Sl.tr h_a_0 hk351; replace hK := Tr.trans hK hk351; replace hB := Nat.le_trans hB hk351.ex.size; replace hA := hk351.new; replace hH := hH356
 refine C_at (n := ⟨135, [], none⟩) (fun _ _ => rfl) ?_ ha352
 refine zh (Sr (Mm (Nc (Vy (Fc 0 underlying56 rfl sizeOf22 rfl rfl) (Ld (Hc 0 5 hH rfl rfl) isAgg22 (Vy (zA h_a_0 rfl underlying22 rfl) (Mm (To ?_))))))))
 have hn459 := Sl.le h_a_0
 obtain ⟨o423, ho423, hm⟩ := Bs hm
 refine zu (ι := (zT × Value × Value × Value × Value × (Nat → Prop))) (fun ⟨s424, v430, v432, v434, v436, A438⟩ => [(0, Pt b_a_), (1, v_held), (7, Pt b334)]) (fun ⟨s424, v430, v432, v434, v436, A438⟩ => fun w' => o423 = .fin s424 ∧ Sl A438 w' v430 s424.people ∧ Hp B A438 w' (o_4 v353 s347 :: obC b334 [v430, v432, v434, v436] 184 :: o_3 v436 s424.latest :: o_3 v434 s424.weights :: o_4 v432 s424.duty :: obC b_a_ [v_a_0, v_a_1, v_a_2, v_a_3, Ii a_.now, v_a_4, v_a_5, .map (some m_a_0)] 58 :: o_4 v_a_3 a_.assigner.away :: obRM (κ := Int) (α := za) m_a_0 a_.work :: L) ∧ Tr Dw B A355 w350 A438 w') ?_ ?_
 ·refine zl ?_
  refine zS ho423 (fun k426 s440 a w' => ∃ i : (Value × Value × Value × Value × (Nat → Prop)), Has ⟨135, [], none⟩ a ([(0, Pt b_a_), (1, v_held), (7, Pt b334), (8, v353), (69, v_a_0), (70, Ii (a_.assigner.people.length : Int)), (71, Ii (k426 : Int))]) ∧ Sl i.2.2.2.2 w' i.1 s440.people ∧ Hp B i.2.2.2.2 w' (o_4 v353 s347 :: obC b334 [i.1, i.2.1, i.2.2.1, i.2.2.2.1] 184 :: o_3 i.2.2.2.1 s440.latest :: o_3 i.2.2.1 s440.weights :: o_4 i.2.1 s440.duty :: obC b_a_ [v_a_0, v_a_1, v_a_2, v_a_3, Ii a_.now, v_a_4, v_a_5, .map (some m_a_0)] 58 :: o_4 v_a_3 a_.assigner.away :: obRM (κ := Int) (α := za) m_a_0 a_.work :: L) ∧ Tr Dw B A355 w350 i.2.2.2.2 w') (fun a ha => ⟨(v_a_0, v82, v142, v202, A355), ha.sb, ⟨h_a_0, hH, Tr.refl (Dw := Dw) hA⟩⟩) ?_
  rintro K k426 s440 a w441 ⟨⟨v442, v444, v446, v448, A450⟩, ha515, h443, hH451, hr425⟩ hle455 K458 h457
  refine C_of ?_ ha515
  replace h_a_0 := Sl.tr h_a_0 hr425; replace hB := Bx hB hr425; replace hA := hr425.new; replace hH := hH451
  refine Sr (Vy (zR rfl rfl) (To ?_))
  refine zh ?_
  refine Cc (fun hc460 => ?_) fun hc460 => ?_
  ·have hlt456 := zL hc460
   obtain ⟨x452, h453, h454⟩ := K458 hlt456
   refine Sk ?_
   refine zh (zl (Sr (Mm ?_)))
   obtain ⟨x461, hx461, h453⟩ := Bs h453
   refine zy h_a_0 hx461 underlying22 sizeOf61 rfl rfl rfl ?_
   intro b462 o463 h464
   obtain ⟨v465, h467, h466⟩ := Zo h464
   refine Vy (zx h467 isAgg61 sizeOf61 rfl) ?_
   refine Zf zeroValue61 rfl ?_
   intro b468 w469 h470
   refine As ?_
   have h475 := Sl.oc h466
   refine Sn h470 sizeOf61 ?_
   intro w471 h472
   have hk477 := h472.kp (Dw := Dw)
   have h476 : El (α := zd) A450 w471 b468 0 x461 := h472.el hA ⟨[Ii x461.no], _, rfl, rfl, ⟨[Ii x461.capacity], _, rfl, rfl, ⟨[Ii x461.calendar], _, rfl, rfl, ⟨_, rfl, h466⟩⟩⟩⟩
   have ht478 := Kp.tr hk477 hA hB; replace hH := Hp.kp hH hk477; replace h443 := Sl.tr h443 ht478; replace hr425 := Tt hr425 ht478; replace hB := Bx hB ht478; replace hA := ht478.new
   refine To ?_
   refine zh ?_
   refine ZZ (Dw := Dw) 21 zH (by kernel_rfl) ?_
   simp only [List.take, List.drop]
   refine Qm (Qn (Qv (fun w' hw' => Fc 1 underlying184 rfl sizeOf54 rfl rfl) (Qc (Hc 1 1 hH rfl rfl) isAgg54 (Qm (Qm ?_)))))
   have h479 := ju h476
   refine Qf underlying61 rfl sizeOf3 (Qi h479 isAgg3 ?_)
   obtain ⟨x480, hx480, h453⟩ := Bs h453
   refine Zd (α := Bool) (e := 4) (v := v353) (l := s347) hH (i := 0) rfl hx480 underlying54 sizeOf4 rfl rfl rfl ?_
   intro b481 o482 h483 hl484
   refine Ql (fun w' hw' => (El.bool (El.kp h483 hw'))) isAgg4 (Qm ?_)
   obtain ⟨s486, hs486, h453⟩ := Bs h453
   refine jG 9 (fun _ : Unit => [(0, Pt b_a_), (1, v_held), (7, Pt b334), (8, v353), (11, Ii (k426 : Int)), (69, v_a_0), (70, Ii (a_.assigner.people.length : Int)), (71, Ii (k426 : Int)), (79, v444), (80, Ii (k426 : Int)), (95, .bool s486)]) (fun _ => True) ?_ ?_
   ·simp only [List.take, List.drop]
    rcases Be (x480) with hc485 | hc485
    ·rw [if_pos hc485] at hs486
     refine Qh hc485 (Qm (Qh hc485 (Qn (Qh hc485 (Qv (fun w' hw' => Fc 3 underlying56 rfl sizeOf54 rfl rfl) (Qh hc485 (Qc (Hc 3 5 hH rfl rfl) isAgg54 (Qh hc485 (Qm ?_)))))))))
     refine Qh hc485 ?_
     obtain ⟨x487, hx487, hs486⟩ := Bs hs486
     refine Zd (α := Bool) (e := 4) (v := v_a_3) (l := a_.assigner.away) hH (i := 6) rfl hx487 underlying54 sizeOf4 rfl rfl rfl ?_
     intro b488 o489 h490 hl491
     refine Qh hc485 (Ql (fun w' hw' => (El.bool (El.kp h490 hw'))) isAgg4 (Qh hc485 (Qv (fun w' hw' => Zs rfl) ?_)))
     refine VQ_y (fun _ _ => zF rfl hc485 rfl) rfl rfl rfl ?_
     obtain rfl := Oi hs486
     exact ZK fun a ha => ⟨(), ha.sb, trivial⟩
    rw [if_neg (nt hc485)] at hs486
    refine Qg hc485 (Qg hc485 (Qg hc485 (Qg hc485 (Qg hc485 (Qg hc485 (Qg hc485 (Qg hc485 ?_)))))))
    refine VQ_y (fun _ _ => zG rfl hc485 rfl) rfl rfl rfl ?_
    obtain rfl := Oi hs486
    exact ZK fun a ha => ⟨(), ha.sb, trivial⟩
   simp only [List.take, List.drop]
   rintro _ _
   obtain ⟨x492, hx492, h453⟩ := Bs h453
   refine Zd (α := Bool) (e := 4) (v := v444) (l := s440.duty) hH (i := 4) rfl hx492 underlying54 sizeOf4 rfl rfl rfl ?_
   intro b493 o494 h495 hl496
   refine QU (fun w497 hk498 => ?_)
   try simp only [List.take, List.drop]
   have ht499 := Kp.tr hk498 hA hB; replace hH := Hp.kp hH hk498; replace h443 := Sl.tr h443 ht499; replace hr425 := Tt hr425 ht499; replace hB := Bx hB ht499; replace hA := ht499.new
   obtain ⟨x500, hx500, h453⟩ := Bs h453
   refine jI (Dw := Dw) (α := Bool) (e := 4) (v := v444) (l := s440.duty) hH (i := 4) rfl hl496 hx500 rfl sizeOf4 rfl hB hA rfl rfl ?_
   intro w501 hH502 ht503
   replace h443 := Sl.tr h443 ht503; replace hr425 := Tt hr425 ht503; replace hB := Bx hB ht503; replace hA := ht503.new; replace hH := hH502
   refine To ?_
   refine zo (Mm (Nc (Vy (Fc 3 underlying184 rfl sizeOf26 rfl rfl) (Ld (Hc 3 1 hH rfl rfl) isAgg26 (Mm ?_)))))
   obtain ⟨x504, hx504, h453⟩ := Bs h453
   refine ZQ (α := Int) (e := 3) (v := v448) (l := s440.latest) hH (i := 2) rfl hx504 underlying26 sizeOf3 rfl rfl rfl ?_
   intro b505 o506 h507 hl508
   obtain ⟨x509, hx509, h453⟩ := Bs h453
   refine jI (Dw := Dw) (α := Int) (e := 3) (v := v448) (l := s440.latest) hH (i := 2) rfl hl508 hx509 rfl sizeOf3 rfl hB hA rfl rfl ?_
   intro w510 hH511 ht512
   replace h443 := Sl.tr h443 ht512; replace hr425 := Tt hr425 ht512; replace hH := hH511
   refine To ?_
   refine zo (Vy (zN rfl rfl) (Mm ?_))
   obtain rfl := Oi h453
   refine zn (fun a ha513 => ?_)
   exact ⟨(⟨s440.people, x500, s440.weights, x509⟩ : zT), hlt456, h454, ⟨(v442, v444, v446, v448, A450), ha513.sub ⟨rfl, rfl, rfl, rfl, rfl, rfl, Ws hlt456 hn459, trivial⟩, ⟨h443, hH, hr425⟩⟩⟩
  refine zQ (fun a ha514 => ?_)
  exact ⟨(s440, v442, v444, v446, v448, A450), ha514.sb, ⟨(h457 (zK hle455 hc460)).symm, h443, hH, hr425⟩⟩
 rintro ⟨s424, v430, v432, v434, v436, A438⟩ w427 ⟨rfl, h431, hH439, hk428⟩ a ha429
 rw [Lp.andThen_fin] at hm
 replace h_held := Sl.tr h_held hk428; replace h_a_0 := Sl.tr h_a_0 hk428; replace hK := Tr.trans hK hk428; replace hB := Nat.le_trans hB hk428.ex.size; replace hA := hk428.new; replace hH := hH439
 refine C_at (n := ⟨135, [], none⟩) (fun _ _ => rfl) ?_ ha429
 refine zh (Sr (Mm (Vy (zA h_held rfl underlying34 rfl) (Mm (To ?_)))))
 have hn552 := Sl.le h_held
 obtain ⟨o516, ho516, hm⟩ := Bs hm
 refine zu (ι := (zT × Value × Value × Value × Value × (Nat → Prop))) (fun ⟨s517, v523, v525, v527, v529, A531⟩ => [(7, Pt b334)]) (fun ⟨s517, v523, v525, v527, v529, A531⟩ => fun w' => o516 = .fin s517 ∧ Sl A531 w' v523 s517.people ∧ Hp B A531 w' (o_4 v353 s347 :: obC b334 [v523, v525, v527, v529] 184 :: o_3 v529 s517.latest :: o_3 v527 s517.weights :: o_4 v525 s517.duty :: obC b_a_ [v_a_0, v_a_1, v_a_2, v_a_3, Ii a_.now, v_a_4, v_a_5, .map (some m_a_0)] 58 :: o_4 v_a_3 a_.assigner.away :: obRM (κ := Int) (α := za) m_a_0 a_.work :: L) ∧ Tr Dw B A438 w427 A531 w') ?_ ?_
 ·refine zl ?_
  refine zS ho516 (fun k519 s533 a w' => ∃ i : (Value × Value × Value × Value × (Nat → Prop)), Has ⟨135, [], none⟩ a ([(0, Pt b_a_), (7, Pt b334), (104, v_held), (105, Ii (held.length : Int)), (106, Ii (k519 : Int))]) ∧ Sl i.2.2.2.2 w' i.1 s533.people ∧ Hp B i.2.2.2.2 w' (o_4 v353 s347 :: obC b334 [i.1, i.2.1, i.2.2.1, i.2.2.2.1] 184 :: o_3 i.2.2.2.1 s533.latest :: o_3 i.2.2.1 s533.weights :: o_4 i.2.1 s533.duty :: obC b_a_ [v_a_0, v_a_1, v_a_2, v_a_3, Ii a_.now, v_a_4, v_a_5, .map (some m_a_0)] 58 :: o_4 v_a_3 a_.assigner.away :: obRM (κ := Int) (α := za) m_a_0 a_.work :: L) ∧ Tr Dw B A438 w427 i.2.2.2.2 w') (fun a ha => ⟨(v430, v432, v434, v436, A438), ha.sb, ⟨h431, hH, Tr.refl (Dw := Dw) hA⟩⟩) ?_
  rintro K k519 s533 a w534 ⟨⟨v535, v537, v539, v541, A543⟩, ha591, h536, hH544, hr518⟩ hle548 K551 h550
  refine C_of ?_ ha591
  replace hB := Bx hB hr518; replace hA := hr518.new
  obtain ⟨h_held, h_a_0⟩ := T2 hr518 h_held h_a_0
  replace hH := hH544
  refine Sr (Vy (zR rfl rfl) (To ?_))
  refine zh ?_
  refine Cc (fun hc553 => ?_) fun hc553 => ?_
  ·have hlt549 := zL hc553
   obtain ⟨x545, h546, h547⟩ := K551 hlt549
   refine Sk ?_
   refine zh (zl (Sr ?_))
   obtain ⟨x554, hx554, h546⟩ := Bs h546
   refine zy h_held hx554 underlying34 sizeOf46 rfl rfl rfl ?_
   intro b555 o556 h557
   obtain ⟨h558, _⟩ := qd h557
   refine Vy (zx h558 isAgg46 sizeOf46 rfl) ?_
   refine Zf zeroValue46 rfl ?_
   intro b559 w560 h561
   refine Sn h561 sizeOf46 ?_
   intro w562 h563
   have hk565 := h563.kp (Dw := Dw)
   have h564 : El (α := zb) A543 w562 b559 0 x554 := h563.el hA ⟨[Ii x554.ticket], _, rfl, rfl, ⟨[Ii x554.person], _, rfl, rfl, ⟨[Ii x554.weight], _, rfl, rfl, rfl⟩⟩⟩
   have ht566 := Kp.tr hk565 hA hB; replace hH := Hp.kp hH hk565; replace hr518 := Tt hr518 ht566; replace hB := Bx hB ht566; replace hA := ht566.new
   obtain ⟨h536, h_a_0⟩ := T2 ht566 h536 h_a_0
   refine To ?_
   refine zh ?_
   refine ZR (Dw := Dw) zH (by kernel_rfl) ?_
   refine Qm (Qn (Qv (fun w' hw' => Fc 0 underlying56 rfl sizeOf22 rfl rfl) (Qc (Hc 0 5 hH rfl rfl) isAgg22 ?_)))
   have h567 := jk h564
   refine Qf underlying46 rfl sizeOf3 (Qi h567 isAgg3 ?_)
   obtain ⟨x568, hx568, h546⟩ := Bs h546
   refine Qo (Ii x568) call67 rfl rfl rfl rfl (fun w' hw' => (JE (Dw := Dw) w' (fun b hb => hA b (Nat.le_trans hw'.size hb)) a_.assigner.people v_a_0 (Sl.kp h_a_0 hw') x554.person hx568).mono (fun _ _ h => ⟨h.1, Kp.trans (Dw := Dw) hw' h.2⟩)) ?_
   refine Qa ?_
   refine jR (fun _ _ => rfl) (fun w569 hk570 => ?_)
   have ht571 := Kp.tr hk570 hA hB; replace hH := Hp.kp hH hk570; replace h564 := El.tr h564 ht571; replace h536 := Sl.tr h536 ht571; replace hr518 := Tt hr518 ht571; replace hB := Bx hB ht571; replace hA := ht571.new
   refine ZZ (Dw := Dw) 16 zH (by kernel_rfl) ?_
   simp only [List.take, List.drop]
   refine Qm (Qn (Qv (fun w' hw' => Fc 3 underlying184 rfl sizeOf26 rfl rfl) (Qc (Hc 3 1 hH rfl rfl) isAgg26 (Qm (Qm (Qn (Qv (fun w' hw' => Fc 3 underlying184 rfl sizeOf26 rfl rfl) (Qc (Hc 3 1 hH rfl rfl) isAgg26 (Qm ?_)))))))))
   obtain ⟨x572, hx572, h546⟩ := Bs h546
   refine Zd (α := Int) (e := 3) (v := v541) (l := s533.latest) hH (i := 2) rfl hx572 underlying26 sizeOf3 rfl rfl rfl ?_
   intro b573 o574 h575 hl576
   refine Qi h575 isAgg3 ?_
   have h577 := JX h564
   refine Qf underlying46 rfl sizeOf3 (Qi h577 isAgg3 (Qv (fun w' hw' => zeh rfl rfl) ?_))
   refine Zd (α := Int) (e := 3) (v := v541) (l := s533.latest) hH (i := 2) rfl hx572 underlying26 sizeOf3 rfl rfl rfl ?_
   intro b578 o579 h580 hl581
   refine QU (fun w582 hk583 => ?_)
   try simp only [List.take, List.drop]
   have ht584 := Kp.tr hk583 hA hB; replace hH := Hp.kp hH hk583; replace h536 := Sl.tr h536 ht584; replace hr518 := Tt hr518 ht584; replace hB := Bx hB ht584; replace hA := ht584.new
   obtain ⟨x585, hx585, h546⟩ := Bs h546
   refine jI (Dw := Dw) (α := Int) (e := 3) (v := v541) (l := s533.latest) hH (i := 2) rfl hl581 hx585 rfl sizeOf3 rfl hB hA rfl rfl ?_
   intro w586 hH587 ht588
   replace h536 := Sl.tr h536 ht588; replace hr518 := Tt hr518 ht588; replace hH := hH587
   refine To ?_
   refine zo (Vy (zN rfl rfl) (Mm ?_))
   obtain rfl := Oi h546
   refine zn (fun a ha589 => ?_)
   exact ⟨(⟨s533.people, s533.duty, s533.weights, x585⟩ : zT), hlt549, h547, ⟨(v535, v537, v539, v541, A543), ha589.sub ⟨rfl, rfl, rfl, rfl, Ws hlt549 hn552, trivial⟩, ⟨h536, hH, hr518⟩⟩⟩
  refine zQ (fun a ha590 => ?_)
  exact ⟨(s533, v535, v537, v539, v541, A543), ha590.sb, ⟨(h550 (zK hle548 hc553)).symm, h536, hH, hr518⟩⟩
 rintro ⟨s517, v523, v525, v527, v529, A531⟩ w520 ⟨rfl, h524, hH532, hk521⟩ a ha522
 rw [Lp.andThen_fin] at hm
 replace hK := Tr.trans hK hk521; replace hA := hk521.new; replace hH := hH532
 refine C_at (n := ⟨135, [], none⟩) (fun _ _ => rfl) ?_ ha522
 refine Sr (Mm (As (To ?_)))
 obtain rfl := Oi hm
 replace hH := Hd 7 (Hf 7 (Hf 7 (Hf 6 (Hf 5 (Hf 7 (Hf 7 (Hf 7 hH)))))))
 refine Rt (Res.one results113 rfl) ?_
 exact ⟨b334, v523, v525, v527, v529, A531, rfl, h524, hH, hK⟩
theorem zfM (w : World) {A : Nat → Prop} (hA : ∀ b, w.heap.size ≤ b → A b) (a_ : Int) (b : Int) (p2 : (List za)) (b_p2 : Nat) (h_p2 : El A w b_p2 0 p2) {r : Int} (hm : qY a_ b p2 = some r) : Ret prog 138 #[Ii a_, Ii b, Pt b_p2] w fun v w' => v = Ii r ∧ Kp Dw w w' := by
 unfold qY at hm
 refine enter func138 rfl ntmps138 rfl ?_
 have hA0 := hA
 obtain ⟨hB, hK, hH⟩ := St (Dw := Dw) hA
 refine Sr (As (To ?_))
 refine zh ?_
 refine zaL (Dw := Dw) (B := w.heap.size) (k := 8) [(6, 38, .agg #[Ii 0, Ii 0, Ii 0, Ii 0, Ii 0, .slice none 0 0]), (7, 38, .agg #[Ii 0, Ii 0, Ii 0, Ii 0, Ii 0, .slice none 0 0])] [(11, 3), (15, 7)] zH (by kernel_rfl) rfl ⟨⟨_, _, _, rfl, by simp⟩, zeroValue38, ⟨⟨_, _, _, rfl, by simp⟩, zeroValue38, trivial⟩⟩ ⟨⟨_, _, _, rfl, by decide, by decide⟩, by decide, rfl, sizeOf38, ⟨⟨_, _, _, rfl, by decide, by decide⟩, by decide, rfl, sizeOf38, trivial⟩⟩ rfl rfl (by decide) hH hB hA ?_
 simp only [List.take]
 obtain ⟨v7, h8, h9⟩ := El.list h_p2
 refine Qc h8 isAgg25 (Qm ?_)
 obtain ⟨x10, hx10, hm⟩ := Bs hm
 refine Zl h9 hx10 underlying25 sizeOf38 rfl rfl rfl ?_
 intro b11 o12 h13
 obtain ⟨v14, h16, h15⟩ := Zt h13
 refine Qv (fun w' hw' => zx (At.kp h16 hw' h13.2.1) isAgg38 sizeOf38 rfl) ?_
 obtain ⟨v17, h18, h19⟩ := El.list h_p2
 refine Qc h18 isAgg25 (Qm ?_)
 obtain ⟨x20, hx20, hm⟩ := Bs hm
 refine Zl h19 hx20 underlying25 sizeOf38 rfl rfl rfl ?_
 intro b21 o22 h23
 obtain ⟨v24, h26, h25⟩ := Zt h23
 refine Qv (fun w' hw' => zx (At.kp h26 hw' h23.2.1) isAgg38 sizeOf38 rfl) ?_
 have h29 := Sl.oc h25
 have h32 := Sl.oc h15
 refine ZK fun a ha => ⟨_, [.agg #[Ii x10.ticket, Ii x10.weight, Ii x10.urgency, Ii x10.since, Ii x10.former, v14], .agg #[Ii x20.ticket, Ii x20.weight, Ii x20.urgency, Ii x20.since, Ii x20.former, v24]], ha, rfl, rfl, ⟨rfl, (by exact (List.forall_mem_cons.2 ⟨rfl, (List.forall_mem_cons.2 ⟨rfl, (List.forall_mem_cons.2 ⟨rfl, (List.forall_mem_cons.2 ⟨rfl, (List.forall_mem_cons.2 ⟨rfl, (List.forall_mem_cons.2 ⟨h32, (fun _ h => nomatch h)⟩)⟩)⟩)⟩)⟩)⟩)), ⟨rfl, (by exact (List.forall_mem_cons.2 ⟨rfl, (List.forall_mem_cons.2 ⟨rfl, (List.forall_mem_cons.2 ⟨rfl, (List.forall_mem_cons.2 ⟨rfl, (List.forall_mem_cons.2 ⟨rfl, (List.forall_mem_cons.2 ⟨h29, (fun _ h => nomatch h)⟩)⟩)⟩)⟩)⟩)⟩)), trivial⟩⟩, fun b1 w2 A3 hH4 ht5 a ha6 => ?_⟩
 obtain ⟨h15, h25, hK, hB, hA⟩ := U2 ht5 hK hB h15 h25
 replace hH := hH4
 obtain ⟨A33, ht34, h35, hH36⟩ := Hp.freezeC (Dw := Dw) (α := za) (x := x10) hH (i := 0) rfl hA (by exact ⟨[Ii x10.ticket], _, rfl, rfl, ⟨[Ii x10.weight], _, rfl, rfl, ⟨[Ii x10.urgency], _, rfl, rfl, ⟨[Ii x10.since], _, rfl, rfl, ⟨[Ii x10.former], _, rfl, rfl, ⟨_, rfl, h15⟩⟩⟩⟩⟩⟩)
 obtain ⟨h25, hK, hB, hA⟩ := U1 ht34 hK hB h25
 replace hH := hH36
 obtain ⟨A37, ht38, h39, hH40⟩ := Hp.freezeC (Dw := Dw) (α := za) (x := x20) hH (i := 0) rfl hA (by exact ⟨[Ii x20.ticket], _, rfl, rfl, ⟨[Ii x20.weight], _, rfl, rfl, ⟨[Ii x20.urgency], _, rfl, rfl, ⟨[Ii x20.since], _, rfl, rfl, ⟨[Ii x20.former], _, rfl, rfl, ⟨_, rfl, h25⟩⟩⟩⟩⟩⟩)
 replace h35 := El.tr h35 ht38
 obtain ⟨hK, hB, hA⟩ := U0 ht38 hK hB
 replace hH := hH40
 refine C_at (n := ⟨33, [], none⟩) (fun _ _ => rfl) ?_ ha6
 refine zh ?_
 refine ZZ (Dw := Dw) 15 zH (by kernel_rfl) ?_
 simp only [List.take, List.drop]
 have h41 := zaO h39
 refine Qf underlying38 rfl sizeOf3 (Qi h41 isAgg3 ?_)
 have h42 := zaO h35
 refine Qf underlying38 rfl sizeOf3 (Qi h42 isAgg3 ?_)
 refine Qo (Ii (zj x20.urgency x10.urgency)) call55 rfl rfl rfl rfl (fun w' hw' => (ZO w' x20.urgency x10.urgency).mono (fun _ _ h => ⟨h.1, h.2 ▸ hw'⟩)) ?_
 have h43 := Ja h35
 refine Qf underlying38 rfl sizeOf3 (Qi h43 isAgg3 ?_)
 have h44 := Ja h39
 refine Qf underlying38 rfl sizeOf3 (Qi h44 isAgg3 ?_)
 refine Qo (Ii (zj x10.since x20.since)) call55 rfl rfl rfl rfl (fun w' hw' => (ZO w' x10.since x20.since).mono (fun _ _ h => ⟨h.1, h.2 ▸ hw'⟩)) ?_
 have h45 := qR h35
 refine Qf underlying38 rfl sizeOf3 (Qi h45 isAgg3 ?_)
 have h46 := qR h39
 refine Qf underlying38 rfl sizeOf3 (Qi h46 isAgg3 ?_)
 refine Qo (Ii (zj x10.ticket x20.ticket)) call55 rfl rfl rfl rfl (fun w' hw' => (ZO w' x10.ticket x20.ticket).mono (fun _ _ h => ⟨h.1, h.2 ▸ hw'⟩)) ?_
 refine QU (fun w47 hk48 => ?_)
 try simp only [List.take, List.drop]
 have ht49 := Kp.tr hk48 hA hB
 obtain ⟨hK, hB, hA⟩ := U0 ht49 hK hB
 refine zX (Dw := Dw) (cells := #[Ii (zj x20.urgency x10.urgency), Ii (zj x10.since x20.since), Ii (zj x10.ticket x20.ticket)]) (l := ([(zj x20.urgency x10.urgency), (zj x10.since x20.since), (zj x10.ticket x20.ticket)] : List Int)) (len := 3) underlying26 sizeOf3 zeroValue3 rfl (by generalize ((zj x20.urgency x10.urgency) : Int) = z54; generalize ((zj x10.ticket x20.ticket) : Int) = z55; generalize ((zj x10.since x20.since) : Int) = z56; kernel_rfl) (show (3 * 1 : Nat) ≠ 0 by decide) (show (3 * 1 : Nat) ≤ 2 ^ 24 by decide) hA ⟨[Ii (zj x20.urgency x10.urgency)], _, rfl, rfl, ⟨[Ii (zj x10.since x20.since)], _, rfl, rfl, ⟨[Ii (zj x10.ticket x20.ticket)], _, rfl, rfl, rfl⟩⟩⟩ rfl rfl ?_
 intro v50 w51 hk53 h52
 have ht57 := Kp.tr hk53 hA hB; replace hK := Tt hK ht57
 obtain ⟨x58, hx58, hm⟩ := Bs hm
 refine Vc call131 (zcd w51 ([(zj x20.urgency x10.urgency), (zj x10.since x20.since), (zj x10.ticket x20.ticket)] : List Int) v50 h52 hx58) ?_
 rintro _ _ ⟨rfl, rfl⟩
 refine As (To ?_)
 obtain rfl := Oi hm
 refine Rt (Res.one results138 rfl) ?_
 exact ⟨rfl, hK.kp⟩
def zfP : Go.Shelf.Ren := ⟨fun | 6 => 137 | 14 => 159 | 15 => 83 | 20 => 170 | 21 => 171 | 22 => 172 | 23 => 173 | 24 => 174 | 25 => 175 | 26 => 176 | 27 => 177 | 28 => 109 | 29 => 110 | 46 => 184 | 47 => 133 | 48 => 134 | 49 => 185 | 50 => 186 | 57 => 189 | n => n, fun | 0 => 0 | 1 => 1 | 2 => 2 | 3 => 3 | 4 => 4 | 5 => 5 | 6 => 6 | 7 => 7 | 8 => 8 | 9 => 9 | 10 => 10 | 11 => 11 | 12 => 12 | 13 => 13 | 14 => 14 | 15 => 15 | 16 => 16 | 17 => 17 | 18 => 18 | 19 => 19 | 20 => 20 | 21 => 21 | 22 => 26 | 23 => 199 | 24 => 3 | 25 => 113 | 27 => 26 | 28 => 199 | 29 => 113 | 37 => 223 | 38 => 143 | 39 => 144 | 40 => 145 | 41 => 223 | 42 => 145 | 44 => 236 | 45 => 167 | 46 => 168 | 47 => 237 | 48 => 238 | 49 => 239 | 50 => 138 | 51 => 240 | 52 => 173 | 53 => 174 | 54 => 175 | 55 => 176 | 56 => 236 | 57 => 237 | 58 => 238 | 59 => 239 | 60 => 240 | 66 => 194 | 67 => 195 | 68 => 196 | 69 => 253 | 70 => 136 | 71 => 254 | 72 => 253 | 73 => 254 | 76 => 220 | 77 => 221 | 78 => 255 | 79 => 255 | 81 => 258 | 82 => 259 | 83 => 260 | 84 => 261 | 85 => 262 | 86 => 263 | 87 => 43 | 88 => 264 | 89 => 265 | 90 => 266 | 91 => 246 | 92 => 267 | 93 => 268 | 94 => 269 | 95 => 270 | 96 => 271 | n => n, fun n => n⟩
theorem zdj : Go.Proofs.SlLaysF.n6 Tryz.prog zfP := {
  mixed := by kernel_rfl,
  f6 := ⟨ "slices.SortFunc[[]int,int]", by kernel_rfl, Tryz.func137.trans (congrArg some (by kernel_rfl))⟩,
  f14 := ⟨ "slices.pdqsortCmpFunc[int]", by kernel_rfl, Tryz.func159.trans (congrArg some (by kernel_rfl))⟩,
  f15 := Tryz.func83.trans (congrArg some (by kernel_rfl)),
  f20 := ⟨ "slices.insertionSortCmpFunc[int]", by kernel_rfl, Tryz.func170.trans (congrArg some (by kernel_rfl))⟩,
  f21 := ⟨ "slices.heapSortCmpFunc[int]", by kernel_rfl, Tryz.func171.trans (congrArg some (by kernel_rfl))⟩,
  f22 := ⟨ "slices.breakPatternsCmpFunc[int]", by kernel_rfl, Tryz.func172.trans (congrArg some (by kernel_rfl))⟩,
  f23 := ⟨ "slices.choosePivotCmpFunc[int]", by kernel_rfl, Tryz.func173.trans (congrArg some (by kernel_rfl))⟩,
  f24 := ⟨ "slices.reverseRangeCmpFunc[int]", by kernel_rfl, Tryz.func174.trans (congrArg some (by kernel_rfl))⟩,
  f25 := ⟨ "slices.partialInsertionSortCmpFunc[int]", by kernel_rfl, Tryz.func175.trans (congrArg some (by kernel_rfl))⟩,
  f26 := ⟨ "slices.partitionEqualCmpFunc[int]", by kernel_rfl, Tryz.func176.trans (congrArg some (by kernel_rfl))⟩,
  f27 := ⟨ "slices.partitionCmpFunc[int]", by kernel_rfl, Tryz.func177.trans (congrArg some (by kernel_rfl))⟩,
  f28 := Tryz.func109.trans (congrArg some (by kernel_rfl)),
  f29 := Tryz.func110.trans (congrArg some (by kernel_rfl)),
  f46 := ⟨ "slices.siftDownCmpFunc[int]", by kernel_rfl, Tryz.func184.trans (congrArg some (by kernel_rfl))⟩,
  f47 := Tryz.func133.trans (congrArg some (by kernel_rfl)),
  f48 := Tryz.func134.trans (congrArg some (by kernel_rfl)),
  f49 := ⟨ "slices.medianAdjacentCmpFunc[int]", by kernel_rfl, Tryz.func185.trans (congrArg some (by kernel_rfl))⟩,
  f50 := ⟨ "slices.medianCmpFunc[int]", by kernel_rfl, Tryz.func186.trans (congrArg some (by kernel_rfl))⟩,
  f57 := ⟨ "slices.order2CmpFunc[int]", by kernel_rfl, Tryz.func189.trans (congrArg some (by kernel_rfl))⟩,
  t0 := Tryz.underlying0,
  a0 := Tryz.isAgg0,
  z0 := Tryz.sizeOf0,
  v0 := Tryz.zeroValue0,
  t3 := Tryz.underlying3,
  a3 := Tryz.isAgg3,
  z3 := Tryz.sizeOf3,
  v3 := Tryz.zeroValue3,
  t4 := Tryz.underlying4,
  a4 := Tryz.isAgg4,
  z4 := Tryz.sizeOf4,
  v4 := Tryz.zeroValue4,
  t5 := Tryz.underlying5,
  a5 := Tryz.isAgg5,
  z5 := Tryz.sizeOf5,
  v5 := Tryz.zeroValue5,
  t9 := Tryz.underlying9,
  a9 := Tryz.isAgg9,
  z9 := Tryz.sizeOf9,
  v9 := Tryz.zeroValue9,
  t22 := Tryz.underlying26,
  a22 := Tryz.isAgg26,
  z22 := Tryz.sizeOf26,
  v22 := Tryz.zeroValue26,
  a24 := Tryz.isAgg3,
  z24 := Tryz.sizeOf3,
  t25 := Tryz.underlying113,
  a25 := Tryz.isAgg113,
  z25 := Tryz.sizeOf113,
  v25 := Tryz.zeroValue113,
  t39 := Tryz.underlying144,
  a39 := Tryz.isAgg144,
  z39 := Tryz.sizeOf144,
  v39 := Tryz.zeroValue144,
  t45 := Tryz.underlying167,
  a45 := Tryz.isAgg167,
  z45 := Tryz.sizeOf167,
  v45 := Tryz.zeroValue167,
  t46 := Tryz.underlying168,
  a46 := Tryz.isAgg168,
  z46 := Tryz.sizeOf168,
  v46 := Tryz.zeroValue168,
  t50 := Tryz.underlying138,
  a50 := Tryz.isAgg138,
  z50 := Tryz.sizeOf138,
  v50 := Tryz.zeroValue138,
  t53 := Tryz.underlying174,
  a53 := Tryz.isAgg174,
  z53 := Tryz.sizeOf174,
  v53 := Tryz.zeroValue174,
  t55 := Tryz.underlying176,
  a55 := Tryz.isAgg176,
  z55 := Tryz.sizeOf176,
  v55 := Tryz.zeroValue176,
  t66 := Tryz.underlying194,
  a66 := Tryz.isAgg194,
  z66 := Tryz.sizeOf194,
  v66 := Tryz.zeroValue194,
  t70 := Tryz.underlying136,
  a70 := Tryz.isAgg136,
  z70 := Tryz.sizeOf136,
  v70 := Tryz.zeroValue136,
  t76 := Tryz.underlying220,
  a76 := Tryz.isAgg220,
  z76 := Tryz.sizeOf220,
  v76 := Tryz.zeroValue220,
  t77 := Tryz.underlying221,
  a77 := Tryz.isAgg221,
  z77 := Tryz.sizeOf221,
  v77 := Tryz.zeroValue221 }
theorem zjo {cmp : Int → Int → Option Int} {l r : List Int} {g : FuncId} {cb : Array Value} {B : Nat} {A : Nat → Prop} {w : World} {L : List Ob} {i : Nat} {v : Value} (eg : ∀ (args : Array Value) (w : World), (callFunc g args).run Tryz.prog w = .ok (.enter g args) w) (hcl : ∀ (w1 : World), Tr True B A w A w1 → (∀ b, w1.heap.size ≤ b → A b) → ∀ (x y c : Int), cmp x y = some c → Ret Tryz.prog g (#[.int .i64 x, .int .i64 y] ++ cb) w1 fun v w' => v = .int .i64 c ∧ Kp True w1 w') (hH : Hp B A w L) (hi : L[i]? = some (o_3 v l)) (hB : B ≤ w.heap.size) (hA : ∀ b, w.heap.size ≤ b → A b) (hr : Qr cmp l = some r) : Ret Tryz.prog 137 #[v, .func (.func g) #[] cb] w fun u w' => u = .tuple #[] ∧ Hp B A w' (L.set i (o_3 v r)) ∧ Tr Dw B A w A w' :=
  Hp.sortFunc1 (Dw := Dw) (fun p c w => Go.Proofs.AnyF.slices_SortFunc_none { zdj with } p c _ w) (fun enc hone cf hO blk off cap d w hc hh hb hs => Go.Proofs.Any.slices_SortFunc zdj enc hone cf hO g cb blk off cap d w eg hc hh hb hs) hcl hH hi hB hA hr
theorem zgP (w : World) {A : Nat → Prop} (hA : ∀ b, w.heap.size ≤ b → A b) (l : (List za)) (v_l : Value) (h_l : Sl A w v_l l) {r : (List Int)} (hm : zaq l = some r) : Ret prog 114 #[v_l] w fun v w' => ∃ s0, v = s0 ∧ Ownd 3 w w' s0 r ∧ Kp Dw w w' := by
 unfold zaq at hm
 refine enter func114 rfl ntmps114 rfl ?_
 have hA0 := hA
 obtain ⟨hB, hK, hH⟩ := St (Dw := Dw) hA
 refine Sr ?_
 refine Zy rfl rfl ?_
 intro b3 w4 h5
 have h10 := Sl.oc h_l
 have hk7 := h5.kp (Dw := Dw)
 have h6 : El (α := (List za)) A w4 b3 0 l := h5.el hA (by rw [Value.cells_one h10]; exact ⟨_, rfl, h_l⟩)
 have ht11 := Kp.tr hk7 hA hB; replace hH := Hp.kp hH hk7
 obtain ⟨hK, hB, hA⟩ := U0 ht11 hK hB
 refine As (To ?_)
 refine Sr (As (To ?_))
 refine zh (Sr ?_)
 obtain ⟨v12, h13, h14⟩ := El.list h6
 refine Ld h13 isAgg25 ?_
 have hn15 := Sl.le h14
 refine Vy (zA h14 rfl underlying25 rfl) (Mm (To ?_))
 replace hH : Hp w.heap.size A w4 (o_3 (.slice none 0 0) ([] : (List Int)) :: []) := Hp.addNil (α := Int) (e := 3) hH
 obtain ⟨o16, ho16, hm⟩ := Bs hm
 refine zu (ι := ((List Int) × Value × (Nat → Prop))) (fun ⟨s17, v23, A25⟩ => [(1, Pt b3), (3, v23)]) (fun ⟨s17, v23, A25⟩ => fun w' => o16 = .fin s17 ∧ Hp w.heap.size A25 w' (o_3 v23 s17 :: []) ∧ Tr Dw w.heap.size A w4 A25 w') ?_ ?_
 ·refine zl ?_
  refine zS ho16 (fun k19 s27 a w' => ∃ i : (Value × (Nat → Prop)), Has ⟨19, [], none⟩ a ([(1, Pt b3), (3, i.1), (6, Ii (l.length : Int)), (7, Ii (k19 : Int))]) ∧ Hp w.heap.size i.2 w' (o_3 i.1 s27 :: []) ∧ Tr Dw w.heap.size A w4 i.2 w') (fun a ha => ⟨(.slice none 0 0, A), ha.sb, ⟨hH, Tr.refl (Dw := Dw) hA⟩⟩) ?_
  rintro K k19 s27 a w28 ⟨⟨v29, A31⟩, ha56, hH32, hr18⟩ hle36 K39 h38
  refine C_of ?_ ha56
  replace hB := Bx hB hr18; replace hA := hr18.new; replace hH := hH32
  refine Sr (Vy (zR rfl rfl) (To ?_))
  refine zh ?_
  refine Cc (fun hc41 => ?_) fun hc41 => ?_
  ·have hlt37 := zL hc41
   obtain ⟨x33, h34, h35⟩ := K39 hlt37
   refine Sk ?_
   refine zh (zl (Sr (Mm (As (To ?_)))))
   refine zo (Mm (Mm ?_))
   refine zX (Dw := Dw) (cells := #[Ii (k19 : Int)]) (l := ([(k19 : Int)] : List Int)) (len := 1) underlying26 sizeOf3 zeroValue3 rfl (by generalize ((k19 : Int) : Int) = z46; kernel_rfl) (show (1 * 1 : Nat) ≠ 0 by decide) (show (1 * 1 : Nat) ≤ 2 ^ 24 by decide) hA ⟨[Ii (k19 : Int)], _, rfl, rfl, rfl⟩ rfl rfl ?_
   intro v42 w43 hk45 h44
   have ht47 := Kp.tr hk45 hA hB; replace hH := Hp.kp hH hk45; replace hr18 := Tt hr18 ht47; replace hB := Bx hB ht47; replace hA := ht47.new
   obtain ⟨x48, hx48, h34⟩ := Bs h34
   refine Zv (Dw := Dw) (e := 3) (v := v29) (l := s27) (ti := t3) (bytes := 8) (lim := 17592186044416) hH (i := 0) rfl h44 hx48 underlying26 QY rfl rfl rfl rfl (by decide) (by decide) (by decide) hB hA rfl rfl rfl ?_
   intro v49 w50 A51 hH52 ht53
   replace hr18 := Tt hr18 ht53; replace hH := hH52
   refine As (To ?_)
   refine zo (Vy (zN rfl rfl) (Mm ?_))
   obtain rfl := Oi h34
   refine zn (fun a ha54 => ?_)
   exact ⟨x48, hlt37, h35, ⟨(v49, A51), ha54.sub ⟨rfl, rfl, rfl, Ws hlt37 hn15, trivial⟩, ⟨hH, hr18⟩⟩⟩
  refine zQ (fun a ha55 => ?_)
  exact ⟨(s27, v29, A31), ha55.sb, ⟨(h38 (zK hle36 hc41)).symm, hH, hr18⟩⟩
 rintro ⟨s17, v23, A25⟩ w20 ⟨rfl, hH26, hk21⟩ a ha22
 rw [Lp.andThen_fin] at hm
 replace h6 := El.tr h6 hk21; replace hK := Tr.trans hK hk21; replace hB := Nat.le_trans hB hk21.ex.size; replace hA := hk21.new; replace hH := hH26
 refine C_at (n := ⟨19, [], none⟩) (fun _ _ => rfl) ?_ ha22
 refine Sr (Mm (Vy (qk rfl rfl) ?_))
 obtain ⟨x57, hx57, hm⟩ := Bs hm
 refine zdZ call137 rfl rfl rfl rfl (zjo (Dw := Dw) call138 (fun w63 ht64 h65 p67 q68 c69 h66 => by exact (zfM (Dw := True) w63 h65 p67 q68 l b3 (El.tr h6 ht64) h66).mono fun _ _ h => ⟨h.1, h.2⟩) hH (i := 0) rfl hB hA hx57) ?_
 rintro _ w58 ⟨rfl, hH59, ht60⟩
 replace hK := Tt hK ht60; replace hH := hH59
 refine To ?_
 refine Sr (Mm (As (To ?_)))
 obtain rfl := Oi hm
 refine Rt (Res.one results114 rfl) ?_
 exact ⟨v23, rfl, (Hp.ownd hH (i := 0) rfl), hK.kp⟩
theorem zcs (w : World) {A : Nat → Prop} (hA : ∀ b, w.heap.size ≤ b → A b) (w_ : za) (v_w_ : Value) (h_w_ : Sl A w v_w_ w_.needs) (steps : (List zk)) (v_steps : Value) (h_steps : Sl A w v_steps steps) (m : Int) {r : (List zi)} (hm : QM w_ steps m = some r) : Ret prog 70 #[.agg #[Ii w_.ticket, Ii w_.weight, Ii w_.urgency, Ii w_.since, Ii w_.former, v_w_], v_steps, Ii m] w fun v w' => ∃ s0, v = s0 ∧ Ownd 64 w w' s0 r ∧ Kp Dw w w' := by
 unfold QM at hm
 refine enter func70 rfl ntmps70 rfl ?_
 have hA0 := hA
 obtain ⟨hB, hK, hH⟩ := St (Dw := Dw) hA
 refine Sr ?_
 refine Zy rfl rfl ?_
 intro b5 w6 h7
 have hk9 := h7.kp (Dw := Dw)
 have h8 : El (α := za) A w6 b5 0 w_ := h7.el hA ⟨[Ii w_.ticket], _, rfl, rfl, ⟨[Ii w_.weight], _, rfl, rfl, ⟨[Ii w_.urgency], _, rfl, rfl, ⟨[Ii w_.since], _, rfl, rfl, ⟨[Ii w_.former], _, rfl, rfl, ⟨_, rfl, h_w_⟩⟩⟩⟩⟩⟩
 have ht10 := Kp.tr hk9 hA hB; replace hH := Hp.kp hH hk9
 obtain ⟨h_steps, hK, hB, hA⟩ := U1 ht10 hK hB h_steps
 refine As (To ?_)
 refine Sr (As (To ?_))
 refine zh (Sr (Mm (Vy (zA h_steps rfl underlying24 rfl) (Mm (To ?_)))))
 have hn31 := Sl.le h_steps
 obtain ⟨o11, ho11, hm⟩ := Bs hm
 refine zu (ι := (Int × (Nat → Prop))) (fun ⟨s12, A18⟩ => [(3, Pt b5), (7, ptrV v_steps 3 s12)]) (fun ⟨s12, A18⟩ => fun w' => o11 = .fin s12 ∧ Hp w.heap.size A18 w' ([]) ∧ Tr Dw w.heap.size A w6 A18 w') ?_ ?_
 ·refine zl ?_
  refine zS ho11 (fun k14 s20 a w' => ∃ i : (Nat → Prop), Has ⟨66, [], none⟩ a ([(1, v_steps), (2, Ii m), (3, Pt b5), (7, ptrV v_steps 3 s20), (13, Ii (steps.length : Int)), (14, Ii (k14 : Int))]) ∧ Hp w.heap.size i w' ([]) ∧ Tr Dw w.heap.size A w6 i w') (fun a ha => ⟨A, ha.sb, ⟨hH, Tr.refl (Dw := Dw) hA⟩⟩) ?_
  rintro K k14 s20 a w21 ⟨A22, ha62, hH23, hr13⟩ hle27 K30 h29
  refine C_of ?_ ha62
  replace h_steps := Sl.tr h_steps hr13; replace h8 := El.tr h8 hr13; replace hB := Bx hB hr13; replace hA := hr13.new; replace hH := hH23
  refine Sr (Vy (zR rfl rfl) (To ?_))
  refine zh ?_
  refine Cc (fun hc32 => ?_) fun hc32 => ?_
  ·have hlt28 := zL hc32
   obtain ⟨x24, h25, h26⟩ := K30 hlt28
   refine Sk ?_
   refine zh ?_
   obtain ⟨s34, ho33, h25⟩ := Bs h25
   refine zu (ι := (Nat → Prop)) (fun (A39 : (Nat → Prop)) => [(1, v_steps), (2, Ii m), (3, Pt b5), (7, ptrV v_steps 3 s34), (13, Ii (steps.length : Int)), (14, Ii (k14 : Int))]) (fun (A39 : (Nat → Prop)) => fun w' => Hp w.heap.size A39 w' ([]) ∧ Tr Dw w.heap.size A22 w21 A39 w') ?_ ?_
   ·have hr35 : Tr Dw w.heap.size A22 w21 A22 w21 := Tr.refl (Dw := Dw) hA
    refine zl (Sr (Mm (As (To ?_))))
    refine zh ?_
    refine ZR (Dw := Dw) zH (by kernel_rfl) ?_
    refine Qm (Qm ?_)
    obtain ⟨x41, hx41, ho33⟩ := Bs ho33
    refine Zl h_steps hx41 underlying24 sizeOf83 rfl rfl rfl ?_
    intro b42 o43 h44
    have h45 := Je h44
    refine Qf underlying83 rfl sizeOf3 (Qi h45 isAgg3 (Qm ?_))
    have h46 := Ja h8
    refine Qf underlying38 rfl sizeOf3 (Qi h46 isAgg3 (Qv (fun w' hw' => Qw rfl rfl) (Qv (fun w' hw' => JA rfl rfl) ?_)))
    refine jR (fun _ _ => rfl) (fun w47 hk48 => ?_)
    have ht49 := Kp.tr hk48 hA hB; replace hH := Hp.kp hH hk48; replace h_steps := Sl.tr h_steps ht49; replace hr35 := Tt hr35 ht49
    obtain ⟨s51, ho50, ho33⟩ := Bs ho33
    refine zu (ι := Unit) (fun (_ : Unit) => [(1, v_steps), (2, Ii m), (3, Pt b5), (7, ptrV v_steps 3 s51), (13, Ii (steps.length : Int)), (14, Ii (k14 : Int))]) (fun (_ : Unit) => fun w' => w47 = w') ?_ ?_
    ·refine Cc (fun hc56 => ?_) fun hc56 => ?_
     ·rw [if_pos hc56] at ho50
      refine zo (Mm (Mm (Vy (zki h_steps hx41 underlying24 sizeOf83 rfl rfl) (As ?_))))
      obtain rfl := Oi ho50
      refine zn (fun a ha57 => ?_)
      exact ⟨(), ha57.sb, rfl⟩
     rw [if_neg (nt hc56)] at ho50
     obtain rfl := Oi ho50
     refine qL (fun a ha58 => ?_)
     exact ⟨(), ha58.sb, rfl⟩
    rintro _ _ rfl a ha55
    obtain rfl := Oi ho33
    exact ⟨A22, ha55.sb, ⟨hH, hr35⟩⟩
   rintro A39 w36 ⟨hH40, hk37⟩ a ha38
   replace hr13 := Tr.trans hr13 hk37; replace hA := hk37.new; replace hH := hH40
   refine C_at (n := ⟨66, [], none⟩) (fun _ _ => rfl) ?_ ha38
   refine zo (Vy (zN rfl rfl) (Mm ?_))
   obtain rfl := Oi h25
   refine zn (fun a ha60 => ?_)
   exact ⟨s34, hlt28, h26, ⟨A39, ha60.sub ⟨rfl, rfl, rfl, rfl, rfl, Ws hlt28 hn31, trivial⟩, ⟨hH, hr13⟩⟩⟩
  refine zQ (fun a ha61 => ?_)
  exact ⟨(s20, A22), ha61.sb, ⟨(h29 (zK hle27 hc32)).symm, hH, hr13⟩⟩
 rintro ⟨s12, A18⟩ w15 ⟨rfl, hH19, hk16⟩ a ha17
 rw [Lp.andThen_fin] at hm
 replace h8 := El.tr h8 hk16; replace h_steps := Sl.tr h_steps hk16; replace hK := Tr.trans hK hk16; replace hB := Nat.le_trans hB hk16.ex.size; replace hA := hk16.new; replace hH := hH19
 refine C_at (n := ⟨66, [], none⟩) (fun _ _ => rfl) ?_ ha17
 refine zh (zl (Sr (Mm ?_)))
 obtain ⟨x63, hx63, hm⟩ := Bs hm
 refine Vy (zlr h_steps rfl hx63 underlying151 rfl rfl) (As (To ?_))
 refine Cc (fun hc64 => ?_) fun hc64 => ?_
 ·rw [if_pos hc64] at hm
  refine Sr ?_
  have h65 := jZ h8
  refine Fa underlying38 rfl sizeOf36 ?_
  obtain ⟨v66, h67, h68⟩ := El.list h65
  refine Ld h67 isAgg36 ?_
  obtain ⟨x69, hx69, hm⟩ := Bs hm
  refine Vc call20 (Zx (Dw := Dw) w15 hA w_.needs v66 h68 hx69) ?_
  rintro v70 w72 ⟨_, rfl, h71, hk73⟩
  obtain ⟨A74, ht75, hH76⟩ := Hp.addOwnd (Dw := Dw) hH hB hA hk73 h71
  replace hK := Tt hK ht75; replace hH := hH76
  refine As (To ?_)
  obtain rfl := Oi hm
  refine Rt (Res.one results70 rfl) ?_
  exact ⟨v70, rfl, (Hp.ownd hH (i := 0) rfl), hK.kp⟩
 rw [if_neg (nt hc64)] at hm
 refine Sr (Mm ?_)
 obtain ⟨x77, hx77, hm⟩ := Bs hm
 obtain ⟨b78, o79, h80, h81⟩ := zhA h_steps hx77
 refine Vy (zbO (congrArg some h80)) ?_
 have h82 := zfF h81
 refine Fa underlying83 rfl sizeOf4 (Ld (El.bool h82) isAgg4 (As (To ?_)))
 refine Cc (fun hc83 => ?_) fun hc83 => ?_
 ·rw [if_pos hc83] at hm
  refine Sr (As (To ?_))
  obtain rfl := Oi hm
  replace hH : Hp w.heap.size A18 w15 (obS (α := zi) 64 (.slice none 0 0) ([] : (List zi)) :: []) := Hp.addNil (α := zi) (e := 64) hH
  refine Rt (Res.one results70 rfl) ?_
  exact ⟨.slice none 0 0, rfl, (Hp.ownd hH (i := 0) rfl), hK.kp⟩
 rw [if_neg (nt hc83)] at hm
 refine Sk ?_
 refine Sr (As (To ?_))
 refine zh (Sr ?_)
 have h84 := jZ h8
 refine Fa underlying38 rfl sizeOf36 ?_
 obtain ⟨v85, h86, h87⟩ := El.list h84
 refine Ld h86 isAgg36 (Vy (zA h87 rfl underlying36 rfl) (Mm (To ?_)))
 replace hH : Hp w.heap.size A18 w15 (obS (α := zi) 64 (.slice none 0 0) ([] : (List zi)) :: []) := Hp.addNil (α := zi) (e := 64) hH
 have hn112 := Sl.le h87
 obtain ⟨o88, ho88, hm⟩ := Bs hm
 refine zu (ι := ((List zi) × Value × (Nat → Prop))) (fun ⟨s89, v95, A97⟩ => [(9, v95)]) (fun ⟨s89, v95, A97⟩ => fun w' => o88 = .fin s89 ∧ Hp w.heap.size A97 w' (obS (α := zi) 64 v95 s89 :: []) ∧ Tr Dw w.heap.size A18 w15 A97 w') ?_ ?_
 ·refine zl ?_
  refine zS ho88 (fun k91 s99 a w' => ∃ i : (Value × (Nat → Prop)), Has ⟨66, [], none⟩ a ([(7, ptrV v_steps 3 s12), (9, i.1), (43, v85), (44, Ii (w_.needs.length : Int)), (45, Ii (k91 : Int))]) ∧ Hp w.heap.size i.2 w' (obS (α := zi) 64 i.1 s99 :: []) ∧ Tr Dw w.heap.size A18 w15 i.2 w') (fun a ha => ⟨(.slice none 0 0, A18), ha.sb, ⟨hH, Tr.refl (Dw := Dw) hA⟩⟩) ?_
  rintro K k91 s99 a w100 ⟨⟨v101, A103⟩, ha176, hH104, hr90⟩ hle108 K111 h110
  refine C_of ?_ ha176
  replace hB := Bx hB hr90; replace hA := hr90.new
  obtain ⟨h_steps, h87⟩ := T2 hr90 h_steps h87
  replace hH := hH104
  refine Sr (Vy (zR rfl rfl) (To ?_))
  refine zh ?_
  refine Cc (fun hc113 => ?_) fun hc113 => ?_
  ·have hlt109 := zL hc113
   obtain ⟨x105, h106, h107⟩ := K111 hlt109
   refine Sk ?_
   refine zh ?_
   obtain ⟨s115, ho114, h106⟩ := Bs h106
   refine zu (ι := (Value × (Nat → Prop))) (fun ⟨v117, A122⟩ => [(7, ptrV v_steps 3 s12), (9, v117), (43, v85), (44, Ii (w_.needs.length : Int)), (45, Ii (k91 : Int))]) (fun ⟨v117, A122⟩ => fun w' => Hp w.heap.size A122 w' (obS (α := zi) 64 v117 s115 :: []) ∧ Tr Dw w.heap.size A103 w100 A122 w') ?_ ?_
   ·have hr116 : Tr Dw w.heap.size A103 w100 A103 w100 := Tr.refl (Dw := Dw) hA
    refine zl (Sr ?_)
    obtain ⟨x124, hx124, ho114⟩ := Bs ho114
    refine zy h87 hx124 underlying36 sizeOf64 rfl rfl rfl ?_
    intro b125 o126 h127
    obtain ⟨h128, _⟩ := zal h127
    refine Vy (zx h128 isAgg64 sizeOf64 rfl) ?_
    refine Jj (Dw := Dw) (B := w.heap.size) hH zeroValue64 hB hA rfl ?_
    intro b129 w130 A131 hH132 ht133
    replace h_steps := Sl.tr h_steps ht133; replace hr116 := Tt hr116 ht133; replace hB := Bx hB ht133; replace hA := ht133.new; replace hH := hH132
    refine ZG (Dw := Dw) (off := 0) (ds := [.string x124.name, Ii x124.rank]) hH (i := 0) rfl sizeOf64 rfl (Nat.le_of_ble_eq_true rfl) (by simp [Value.cells, Value.oneCell']) rfl hB hA rfl rfl ?_
    intro w134 hH135 ht136
    replace h_steps := Sl.tr h_steps ht136; replace hr116 := Tt hr116 ht136; replace hB := Bx hB ht136; replace hA := ht136.new; replace hH := hH135
    refine To ?_
    refine zh ?_
    refine ZZ (Dw := Dw) 8 zH (by kernel_rfl) ?_
    simp only [List.take, List.drop]
    refine Qv (fun w' hw' => Fc 1 underlying64 rfl sizeOf3 rfl rfl) (Qc (Hc 1 0 hH rfl rfl) isAgg3 (Qm ?_))
    obtain ⟨b137, o138, h139, h140⟩ := zhA h_steps hx77
    refine Qv (fun w' hw' => zbO (congrArg some h139)) ?_
    have h141 := zcB h140
    refine Qf underlying83 rfl sizeOf3 (Qi h141 isAgg3 (Qv (fun w' hw' => Qw rfl rfl) (Qv (fun w' hw' => Fc 1 underlying64 rfl sizeOf3 rfl rfl) ?_)))
    refine QU (fun w142 hk143 => ?_)
    try simp only [List.take, List.drop]
    have ht144 := Kp.tr hk143 hA hB; replace hH := Hp.kp hH hk143; replace hr116 := Tt hr116 ht144; replace hB := Bx hB ht144; replace hA := ht144.new
    refine ZG (Dw := Dw) (off := 1) (ds := [.string x124.name, Ii (w64 (x124.rank - x77.lower))]) hH (i := 0) rfl sizeOf3 rfl (Nat.le_of_ble_eq_true rfl) (by simp [Value.cells, Value.oneCell']) rfl hB hA rfl rfl ?_
    intro w145 hH146 ht147
    replace hr116 := Tt hr116 ht147; replace hB := Bx hB ht147; replace hA := ht147.new; replace hH := hH146
    refine To ?_
    refine Sr (Vy (Fc 1 underlying64 rfl sizeOf3 rfl rfl) (Ld (Hc 1 0 hH rfl rfl) isAgg3 (Vy (Qz rfl rfl) (To ?_))))
    obtain ⟨s149, ho148, ho114⟩ := Bs ho114
    refine zu (ι := (Value × (Nat → Prop))) (fun ⟨v151, A156⟩ => [(7, ptrV v_steps 3 s12), (9, v151), (43, v85), (44, Ii (w_.needs.length : Int)), (45, Ii (k91 : Int))]) (fun ⟨v151, A156⟩ => fun w' => Hp w.heap.size A156 w' (obC b129 [.string x124.name, Ii (w64 (x124.rank - x77.lower))] 64 :: obS (α := zi) 64 v151 s149 :: []) ∧ Tr Dw w.heap.size A131 w145 A156 w') ?_ ?_
    ·have hr150 : Tr Dw w.heap.size A131 w145 A131 w145 := Tr.refl (Dw := Dw) hA
     refine Cc (fun hc158 => ?_) fun hc158 => ?_
     ·rw [if_pos hc158] at ho148
      refine zo (Mm (Vy (zx (Hp.part (off := 0) (n := 2) (ds := [.string x124.name, Ii (w64 (x124.rank - x77.lower))]) hH (i := 0) rfl rfl) isAgg64 sizeOf64 rfl) ?_))
      refine zX (Dw := Dw) (cells := #[.string x124.name, Ii (w64 (x124.rank - x77.lower))]) (l := ([(⟨x124.name, w64 (x124.rank - x77.lower)⟩ : zi)] : List zi)) (len := 1) underlying36 sizeOf64 zeroValue64 rfl (by generalize (w64 (x124.rank - x77.lower) : Int) = z163; kernel_rfl) (show (1 * 2 : Nat) ≠ 0 by decide) (show (1 * 2 : Nat) ≤ 2 ^ 24 by decide) hA ⟨[.string x124.name, Ii (w64 (x124.rank - x77.lower))], _, rfl, ⟨[.string x124.name], _, rfl, rfl, rfl⟩, rfl⟩ rfl rfl ?_
      intro v159 w160 hk162 h161
      have ht164 := Kp.tr hk162 hA hB; replace hH := Hp.kp hH hk162; replace hr150 := Tt hr150 ht164; replace hB := Bx hB ht164; replace hA := ht164.new
      obtain ⟨x165, hx165, ho148⟩ := Bs ho148
      refine Zv (Dw := Dw) (e := 64) (v := v101) (l := s99) (ti := t64) (bytes := 24) (lim := 5864062014805) hH (i := 1) rfl h161 hx165 underlying36 zeW rfl rfl rfl rfl (by decide) (by decide) (by decide) hB hA rfl rfl rfl ?_
      intro v166 w167 A168 hH169 ht170
      replace hr150 := Tt hr150 ht170; replace hH := hH169
      refine As ?_
      obtain rfl := Oi ho148
      refine zn (fun a ha171 => ?_)
      exact ⟨(v166, A168), ha171.sb, ⟨hH, hr150⟩⟩
     rw [if_neg (nt hc158)] at ho148
     obtain rfl := Oi ho148
     refine qL (fun a ha172 => ?_)
     exact ⟨(v101, A131), ha172.sb, ⟨hH, hr150⟩⟩
    rintro ⟨v151, A156⟩ w153 ⟨hH157, hk154⟩ a ha155
    replace hr116 := Tr.trans hr116 hk154; replace hA := hk154.new; replace hH := hH157
    obtain rfl := Oi ho114
    replace hH := Hd 1 (Hf 1 hH)
    exact ⟨(v151, A156), ha155.sb, ⟨hH, hr116⟩⟩
   rintro ⟨v117, A122⟩ w119 ⟨hH123, hk120⟩ a ha121
   replace hr90 := Tr.trans hr90 hk120; replace hA := hk120.new; replace hH := hH123
   refine C_at (n := ⟨66, [], none⟩) (fun _ _ => rfl) ?_ ha121
   refine zo (Vy (zN rfl rfl) (Mm ?_))
   obtain rfl := Oi h106
   refine zn (fun a ha174 => ?_)
   exact ⟨s115, hlt109, h107, ⟨(v117, A122), ha174.sub ⟨rfl, rfl, rfl, rfl, Ws hlt109 hn112, trivial⟩, ⟨hH, hr90⟩⟩⟩
  refine zQ (fun a ha175 => ?_)
  exact ⟨(s99, v101, A103), ha175.sb, ⟨(h110 (zK hle108 hc113)).symm, hH, hr90⟩⟩
 rintro ⟨s89, v95, A97⟩ w92 ⟨rfl, hH98, hk93⟩ a ha94
 rw [Lp.andThen_fin] at hm
 replace hK := Tr.trans hK hk93; replace hA := hk93.new; replace hH := hH98
 refine C_at (n := ⟨66, [], none⟩) (fun _ _ => rfl) ?_ ha94
 refine Sr (Mm (As (To ?_)))
 obtain rfl := Oi hm
 refine Rt (Res.one results70 rfl) ?_
 exact ⟨v95, rfl, (Hp.ownd hH (i := 0) rfl), hK.kp⟩
theorem Jl (w : World) {A : Nat → Prop} (hA : ∀ b, w.heap.size ≤ b → A b) (s : (List zi)) (v_s : Value) (h_s : Sl A w v_s s) (f : zi → Option Bool) (f_f : FuncId) (f_a f_c : Array Value) (f_call : ∀ (args : Array Value) (w : World), (callFunc f_f args).run prog w = .ok (.enter f_f args) w) (f_spec : ∀ (w1 : World) (A1 : Nat → Prop), Tr Dw w.heap.size A w A1 w1 → (∀ b, w1.heap.size ≤ b → A1 b) → ∀ (y0 : zi) (r : Bool), f y0 = some r → Ret prog f_f (f_a ++ #[.agg #[.string y0.name, Ii y0.rank]] ++ f_c) w1 fun v w' => v = .bool r ∧ Kp Dw w1 w') {r : Int} (hm : ZM s f = some r) : Ret prog 117 #[v_s, .func (.func f_f) f_a f_c] w fun v w' => v = Ii r ∧ Kp Dw w w' := by
 unfold ZM at hm
 refine enter func117 rfl ntmps117 rfl ?_
 have hA0 := hA
 obtain ⟨hB, hK, hH⟩ := St (Dw := Dw) hA
 refine Sr (As (To ?_))
 refine zh (Sr (Mm (Vy (zA h_s rfl underlying36 rfl) (Mm (To ?_)))))
 have hn23 := Sl.le h_s
 obtain ⟨o3, ho3, hm⟩ := Bs hm
 refine zu (ι := (Unit × (Nat → Prop))) (fun ⟨s4, A10⟩ => []) (fun ⟨s4, A10⟩ => fun w' => o3 = .fin s4 ∧ Hp w.heap.size A10 w' ([]) ∧ Tr Dw w.heap.size A w A10 w') ?_ ?_
 ·refine zl ?_
  refine zS ho3 (fun k6 _ a w' => ∃ i : (Nat → Prop), Has ⟨19, [], none⟩ a ([(0, v_s), (1, .func (.func f_f) f_a f_c), (7, Ii (s.length : Int)), (8, Ii (k6 : Int))]) ∧ Hp w.heap.size i w' ([]) ∧ Tr Dw w.heap.size A w i w') (fun a ha => ⟨A, ha.sb, ⟨hH, Tr.refl (Dw := Dw) hA⟩⟩) ?_
  rintro K k6 _ a w13 ⟨A14, ha37, hH15, hr5⟩ hle19 K22 h21
  refine C_of ?_ ha37
  obtain ⟨h_s, hK, hB, hA⟩ := U1 hr5 hK hB h_s
  replace hH := hH15
  refine Sr (Vy (zR rfl rfl) (To ?_))
  refine zh ?_
  refine Cc (fun hc24 => ?_) fun hc24 => ?_
  ·have hlt20 := zL hc24
   obtain ⟨x16, h17, h18⟩ := K22 hlt20
   refine Sk ?_
   refine zh (zl (Sr (Mm (As (To ?_)))))
   refine Sr (Mm (Mm (Mm ?_)))
   obtain ⟨x25, hx25, h17⟩ := Bs h17
   refine zy h_s hx25 underlying36 sizeOf64 rfl rfl rfl ?_
   intro b26 o27 h28
   obtain ⟨h29, _⟩ := zal h28
   refine Vy (zx h29 isAgg64 sizeOf64 rfl) ?_
   obtain ⟨x30, hx30, h17⟩ := Bs h17
   refine Vc f_call (f_spec w13 _ hK hA x25 _ hx30) ?_
   rintro _ w31 ⟨rfl, hk32⟩
   have ht33 := Kp.tr hk32 hA hB; replace hH := Hp.kp hH hk32; replace hK := Tt hK ht33; replace hr5 := Tt hr5 ht33
   refine To ?_
   refine Cc (fun hc34 => ?_) fun hc34 => ?_
   ·rw [if_pos hc34] at h17
    refine Sr (Mm (As (To ?_)))
    obtain rfl := Oi h17
    obtain rfl := (h18 : Lp.rt _ = _)
    rw [Lp.andThen_rt] at hm
    obtain rfl := Oi hm
    refine Rt (Res.one results117 rfl) ?_
    exact ⟨rfl, hK.kp⟩
   rw [if_neg (nt hc34)] at h17
   refine Sk ?_
   refine zo (Vy (zN rfl rfl) (Mm ?_))
   obtain rfl := Oi h17
   refine zn (fun a ha35 => ?_)
   exact ⟨(), hlt20, h18, ⟨A14, ha35.sub ⟨rfl, rfl, rfl, Ws hlt20 hn23, trivial⟩, ⟨hH, hr5⟩⟩⟩
  refine zQ (fun a ha36 => ?_)
  exact ⟨((), A14), ha36.sub trivial, ⟨(h21 (zK hle19 hc24)).symm, hH, hr5⟩⟩
 rintro ⟨s4, A10⟩ w7 ⟨rfl, hH11, hk8⟩ a ha9
 rw [Lp.andThen_fin] at hm
 replace hK := Tr.trans hK hk8; replace hA := hk8.new; replace hH := hH11
 refine C_at (n := ⟨19, [], none⟩) (fun _ _ => rfl) ?_ ha9
 refine Sr (As (To ?_))
 obtain rfl := Oi hm
 refine Rt (Res.one results117 rfl) ?_
 exact ⟨rfl, hK.kp⟩
theorem jU (w : World) {A : Nat → Prop} (hA : ∀ b, w.heap.size ≤ b → A b) (s : (List zi)) (v_s : Value) (h_s : Sl A w v_s s) (f : zi → Option Bool) (f_f : FuncId) (f_a f_c : Array Value) (f_call : ∀ (args : Array Value) (w : World), (callFunc f_f args).run prog w = .ok (.enter f_f args) w) (f_spec : ∀ (w1 : World) (A1 : Nat → Prop), Tr Dw w.heap.size A w A1 w1 → (∀ b, w1.heap.size ≤ b → A1 b) → ∀ (y0 : zi) (r : Bool), f y0 = some r → Ret prog f_f (f_a ++ #[.agg #[.string y0.name, Ii y0.rank]] ++ f_c) w1 fun v w' => v = .bool r ∧ Kp Dw w1 w') {r : Bool} (hm : Zb s f = some r) : Ret prog 90 #[v_s, .func (.func f_f) f_a f_c] w fun v w' => v = .bool r ∧ Kp Dw w w' := by
 unfold Zb at hm
 refine enter func90 rfl ntmps90 rfl ?_
 have hA0 := hA
 obtain ⟨hB, hK, hH⟩ := St (Dw := Dw) hA
 refine Sr (As (To ?_))
 refine Sr (Mm (Mm ?_))
 obtain ⟨x3, hx3, hm⟩ := Bs hm
 refine Vc call117 (Jl (Dw := Dw) w hA s v_s h_s f f_f f_a f_c f_call (fun w1 A1 ht => f_spec w1 A1 (Tr.trans hK (Tr.lower (Dw := Dw) ht hB))) hx3) ?_
 rintro _ w4 ⟨rfl, hk5⟩
 have ht6 := Kp.tr hk5 hA hB; replace hK := Tt hK ht6
 refine Vy (Qz rfl rfl) (As (To ?_))
 obtain rfl := Oi hm
 refine Rt (Res.one results90 rfl) ?_
 exact ⟨rfl, hK.kp⟩
theorem zcZ (w : World) {A : Nat → Prop} (hA : ∀ b, w.heap.size ≤ b → A b) (s : zi) (p1 : zi) (b_p1 : Nat) (h_p1 : El A w b_p1 0 p1) {r : Bool} (hm : QS s p1 = some r) : Ret prog 91 #[.agg #[.string s.name, Ii s.rank], Pt b_p1] w fun v w' => v = .bool r ∧ Kp Dw w w' := by
 unfold QS at hm
 refine enter func91 rfl ntmps91 rfl ?_
 have hA0 := hA
 obtain ⟨hB, hK, hH⟩ := St (Dw := Dw) hA
 refine Sr ?_
 refine Zy rfl rfl ?_
 intro b1 w2 h3
 have hk5 := h3.kp (Dw := Dw)
 have h4 : El (α := zi) A w2 b1 0 s := h3.el hA ⟨[.string s.name], _, rfl, rfl, rfl⟩
 have ht6 := Kp.tr hk5 hA hB; replace h_p1 := El.tr h_p1 ht6; replace hK := Tt hK ht6
 refine As (To ?_)
 refine Sr ?_
 have h7 := jM h4
 refine Fa underlying64 rfl sizeOf9 (Ld (El.str h7) isAgg9 ?_)
 have h8 := jM h_p1
 refine Fa underlying64 rfl sizeOf9 (Ld (El.str h8) isAgg9 (Vy (zlC rfl rfl) (Mm ?_)))
 refine ZP 6 (fun _ : Unit => [(15, .bool ((ja s.name p1.name) && (decide (p1.rank ≤ s.rank))))]) (fun _ w' => w2 = w') ?_ ?_
 ·simp only [List.take, List.drop]
  rcases Be (ja s.name p1.name) with hc9 | hc9
  ·refine Gf hc9 ?_
   have h11 := zau h4
   refine Fa underlying64 rfl sizeOf3 (Gf hc9 (Li h11 isAgg3 (Gf hc9 ?_)))
   have h12 := zau h_p1
   refine Fa underlying64 rfl sizeOf3 (Gf hc9 (Li h12 isAgg3 (Gf hc9 (Vy (Qz rfl rfl) (Vy (zF rfl hc9 rfl) ?_)))))
   exact zn fun a ha => ⟨(), ha.sub ⟨(by rw [hc9]; rfl), trivial⟩, rfl⟩
  refine Gm hc9 (Gm hc9 (Gm hc9 (Gm hc9 (Gm hc9 (Vy (zG rfl hc9 rfl) ?_)))))
  exact zn fun a ha => ⟨(), ha.sub ⟨(by rw [hc9]; rfl), trivial⟩, rfl⟩
 simp only [List.take, List.drop]
 rintro _ _ rfl
 refine As (To ?_)
 obtain rfl := Oi hm
 refine Rt (Res.one results91 rfl) ?_
 exact ⟨rfl, hK.kp⟩
theorem zaW (w : World) {A : Nat → Prop} (hA : ∀ b, w.heap.size ≤ b → A b) (p : zd) (v_p : Value) (h_p : Sl A w v_p p.skills) (needs : (List zi)) (v_needs : Value) (h_needs : Sl A w v_needs needs) {r : Bool} (hm : ZV p needs = some r) : Ret prog 71 #[.agg #[Ii p.no, Ii p.capacity, Ii p.calendar, v_p], v_needs] w fun v w' => v = .bool r ∧ Kp Dw w w' := by
 unfold ZV at hm
 refine enter func71 rfl ntmps71 rfl ?_
 have hA0 := hA
 obtain ⟨hB, hK, hH⟩ := St (Dw := Dw) hA
 refine Sr ?_
 refine Zy rfl rfl ?_
 intro b5 w6 h7
 have hk9 := h7.kp (Dw := Dw)
 have h8 : El (α := zd) A w6 b5 0 p := h7.el hA ⟨[Ii p.no], _, rfl, rfl, ⟨[Ii p.capacity], _, rfl, rfl, ⟨[Ii p.calendar], _, rfl, rfl, ⟨_, rfl, h_p⟩⟩⟩⟩
 have ht10 := Kp.tr hk9 hA hB; replace hH := Hp.kp hH hk9
 obtain ⟨h_needs, hK, hB, hA⟩ := U1 ht10 hK hB h_needs
 refine As (To ?_)
 refine zh (Sr (Mm (Vy (zA h_needs rfl underlying36 rfl) (Mm (To ?_)))))
 have hn31 := Sl.le h_needs
 obtain ⟨o11, ho11, hm⟩ := Bs hm
 refine zu (ι := (Unit × (Nat → Prop))) (fun ⟨s12, A18⟩ => []) (fun ⟨s12, A18⟩ => fun w' => o11 = .fin s12 ∧ Hp w.heap.size A18 w' ([]) ∧ Tr Dw w.heap.size A w6 A18 w') ?_ ?_
 ·refine zl ?_
  refine zS ho11 (fun k14 _ a w' => ∃ i : (Nat → Prop), Has ⟨19, [], none⟩ a ([(2, Pt b5), (7, v_needs), (8, Ii (needs.length : Int)), (9, Ii (k14 : Int))]) ∧ Hp w.heap.size i w' ([]) ∧ Tr Dw w.heap.size A w6 i w') (fun a ha => ⟨A, ha.sb, ⟨hH, Tr.refl (Dw := Dw) hA⟩⟩) ?_
  rintro K k14 _ a w21 ⟨A22, ha66, hH23, hr13⟩ hle27 K30 h29
  refine C_of ?_ ha66
  replace h8 := El.tr h8 hr13
  obtain ⟨h_needs, hK, hB, hA⟩ := U1 hr13 hK hB h_needs
  replace hH := hH23
  refine Sr (Vy (zR rfl rfl) (To ?_))
  refine zh ?_
  refine Cc (fun hc32 => ?_) fun hc32 => ?_
  ·have hlt28 := zL hc32
   obtain ⟨x24, h25, h26⟩ := K30 hlt28
   refine Sk ?_
   refine zh (zl (Sr ?_))
   obtain ⟨x33, hx33, h25⟩ := Bs h25
   refine zy h_needs hx33 underlying36 sizeOf64 rfl rfl rfl ?_
   intro b34 o35 h36
   obtain ⟨h37, _⟩ := zal h36
   refine Vy (zx h37 isAgg64 sizeOf64 rfl) ?_
   refine Zf zeroValue64 rfl ?_
   intro b38 w39 h40
   refine Sn h40 sizeOf64 ?_
   intro w41 h42
   have hk44 := h42.kp (Dw := Dw)
   have h43 : El (α := zi) A22 w41 b38 0 x33 := h42.el hA ⟨[.string x33.name], _, rfl, rfl, rfl⟩
   have ht45 := Kp.tr hk44 hA hB; replace hH := Hp.kp hH hk44; replace h8 := El.tr h8 ht45; replace hr13 := Tt hr13 ht45
   obtain ⟨hK, hB, hA⟩ := U0 ht45 hK hB
   refine To ?_
   refine Sr ?_
   have h46 := Jm h8
   refine Fa underlying61 rfl sizeOf36 ?_
   obtain ⟨v47, h48, h49⟩ := El.list h46
   refine Ld h48 isAgg36 (Vy (qk rfl rfl) ?_)
   obtain ⟨x51, hx51, h25⟩ := Bs h25
   refine Vc call90 (jU (Dw := Dw) w41 hA p.skills v47 h49 (fun y59 => QS y59 x33) 91 #[] #[Pt b38] call91 (fun w55 A56 ht57 h58 y52 r53 h54 => (zcZ (Dw := Dw) w55 h58 y52 x33 b38 (El.tr h43 ht57) h54).mono (fun _ _ h => ⟨h.1, h.2⟩)) hx51) ?_
   rintro _ w60 ⟨rfl, hk61⟩
   have ht62 := Kp.tr hk61 hA hB; replace hH := Hp.kp hH hk61; replace hK := Tt hK ht62; replace hr13 := Tt hr13 ht62
   refine Vy (Zs rfl) (To ?_)
   refine Cc (fun hc63 => ?_) fun hc63 => ?_
   ·rw [if_pos hc63] at h25
    refine Sr (As (To ?_))
    obtain rfl := Oi h25
    obtain rfl := (h26 : Lp.rt _ = _)
    rw [Lp.andThen_rt] at hm
    obtain rfl := Oi hm
    refine Rt (Res.one results71 rfl) ?_
    exact ⟨rfl, hK.kp⟩
   rw [if_neg (nt hc63)] at h25
   refine Sk ?_
   refine zo (Vy (zN rfl rfl) (Mm ?_))
   obtain rfl := Oi h25
   refine zn (fun a ha64 => ?_)
   exact ⟨(), hlt28, h26, ⟨A22, ha64.sub ⟨rfl, rfl, rfl, Ws hlt28 hn31, trivial⟩, ⟨hH, hr13⟩⟩⟩
  refine zQ (fun a ha65 => ?_)
  exact ⟨((), A22), ha65.sub trivial, ⟨(h29 (zK hle27 hc32)).symm, hH, hr13⟩⟩
 rintro ⟨s12, A18⟩ w15 ⟨rfl, hH19, hk16⟩ a ha17
 rw [Lp.andThen_fin] at hm
 replace hK := Tr.trans hK hk16; replace hA := hk16.new; replace hH := hH19
 refine C_at (n := ⟨19, [], none⟩) (fun _ _ => rfl) ?_ ha17
 refine Sr (As (To ?_))
 obtain rfl := Oi hm
 refine Rt (Res.one results71 rfl) ?_
 exact ⟨rfl, hK.kp⟩
theorem zbM (w : World) {A : Nat → Prop} (hA : ∀ b, w.heap.size ≤ b → A b) (x : (List Int)) (v_x : Value) (h_x : Sl A w v_x x) (cmp : Int → Int → Option Int) (cmp_f : FuncId) (cmp_a cmp_c : Array Value) (cmp_call : ∀ (args : Array Value) (w : World), (callFunc cmp_f args).run prog w = .ok (.enter cmp_f args) w) (cmp_spec : ∀ (w1 : World) (A1 : Nat → Prop), Tr Dw w.heap.size A w A1 w1 → (∀ b, w1.heap.size ≤ b → A1 b) → ∀ (y0 : Int) (y1 : Int) (r : Int), cmp y0 y1 = some r → Ret prog cmp_f (cmp_a ++ #[Ii y0, Ii y1] ++ cmp_c) w1 fun v w' => v = Ii r ∧ Kp Dw w1 w') {r : Int} (hm : qK x cmp = some r) : Ret prog 139 #[v_x, .func (.func cmp_f) cmp_a cmp_c] w fun v w' => v = Ii r ∧ Kp Dw w w' := by
 unfold qK at hm
 refine enter func139 rfl ntmps139 rfl ?_
 have hA0 := hA
 obtain ⟨hB, hK, hH⟩ := St (Dw := Dw) hA
 refine Sr (As (To ?_))
 refine zh (Sr (Mm (Vy (zA h_x rfl underlying26 rfl) (Vy (zR rfl rfl) (To ?_)))))
 refine Cc (fun hc3 => ?_) fun hc3 => ?_
 ·rw [if_pos hc3] at hm
  cases hm
 rw [if_neg (nt hc3)] at hm
 refine Sk ?_
 refine Sr (Mm ?_)
 obtain ⟨x4, hx4, hm⟩ := Bs hm
 refine zy h_x hx4 underlying26 sizeOf3 rfl rfl rfl ?_
 intro b5 o6 h7
 refine Li h7 isAgg3 (As (To ?_))
 refine zh (Sr (As (To ?_)))
 obtain ⟨o8, ho8, hm⟩ := Bs hm
 refine zu (ι := ((Int × Int) × (Nat → Prop))) (fun ⟨s9, A15⟩ => [(5, Ii s9.1)]) (fun ⟨s9, A15⟩ => fun w' => o8 = .fin s9 ∧ Hp w.heap.size A15 w' ([]) ∧ Tr Dw w.heap.size A w A15 w') ?_ ?_
 ·refine zl ?_
  refine zbd ho8 (fun s17 a w' => ∃ i : (Nat → Prop), Has ⟨33, [], none⟩ a ([(0, v_x), (1, .func (.func cmp_f) cmp_a cmp_c), (5, Ii s17.1), (6, Ii s17.2)]) ∧ Hp w.heap.size i w' ([]) ∧ Tr Dw w.heap.size A w i w') (fun a ha => ⟨A, ha.sb, ⟨hH, Tr.refl (Dw := Dw) hA⟩⟩) ?_
  rintro K s17 a w18 ⟨A19, ha61, hH20, hr10⟩ K27
  refine C_of ?_ ha61
  obtain ⟨h_x, hK, hB, hA⟩ := U1 hr10 hK hB h_x
  replace hH := hH20
  obtain ⟨x21, h22, h23⟩ := K27
  refine zh (Sr (Mm (Mm (Vy (zA h_x rfl underlying26 rfl) (Vy (zR rfl rfl) (To ?_))))))
  refine Cc (fun hc28 => ?_) fun hc28 => ?_
  ·rw [if_pos hc28] at h22
   refine Sk ?_
   refine zh ?_
   obtain ⟨s30, ho29, h22⟩ := Bs h22
   refine zu (ι := (Nat → Prop)) (fun (A36 : (Nat → Prop)) => [(0, v_x), (1, .func (.func cmp_f) cmp_a cmp_c), (5, Ii s30), (6, Ii s17.2)]) (fun (A36 : (Nat → Prop)) => fun w' => Hp w.heap.size A36 w' ([]) ∧ Tr Dw w.heap.size A19 w18 A36 w') ?_ ?_
   ·have hr31 : Tr Dw w.heap.size A19 w18 A19 w18 := Tr.refl (Dw := Dw) hA
    refine zl (Sr (Mm (Mm (Mm ?_))))
    obtain ⟨x38, hx38, ho29⟩ := Bs ho29
    refine zy h_x hx38 underlying26 sizeOf3 rfl rfl rfl ?_
    intro b39 o40 h41
    refine Li h41 isAgg3 (Mm ?_)
    obtain ⟨x42, hx42, ho29⟩ := Bs ho29
    refine Vc cmp_call (cmp_spec w18 _ hK hA x38 s17.1 _ hx42) ?_
    rintro _ w43 ⟨rfl, hk44⟩
    have ht45 := Kp.tr hk44 hA hB; replace hH := Hp.kp hH hk44; replace h_x := Sl.tr h_x ht45; replace hr31 := Tt hr31 ht45
    refine Vy (zR rfl rfl) (To ?_)
    obtain ⟨s47, ho46, ho29⟩ := Bs ho29
    refine zu (ι := Unit) (fun (_ : Unit) => [(0, v_x), (1, .func (.func cmp_f) cmp_a cmp_c), (5, Ii s47), (6, Ii s17.2)]) (fun (_ : Unit) => fun w' => w43 = w') ?_ ?_
    ·refine Cc (fun hc52 => ?_) fun hc52 => ?_
     ·rw [if_pos hc52] at ho46
      refine zo (Mm (Mm ?_))
      refine zy h_x hx38 underlying26 sizeOf3 rfl rfl rfl ?_
      intro b53 o54 h55
      refine Li h55 isAgg3 (As ?_)
      obtain rfl := Oi ho46
      refine zn (fun a ha56 => ?_)
      exact ⟨(), ha56.sb, rfl⟩
     rw [if_neg (nt hc52)] at ho46
     obtain rfl := Oi ho46
     refine qL (fun a ha57 => ?_)
     exact ⟨(), ha57.sb, rfl⟩
    rintro _ _ rfl a ha51
    obtain rfl := Oi ho29
    exact ⟨A19, ha51.sb, ⟨hH, hr31⟩⟩
   rintro A36 w33 ⟨hH37, hk34⟩ a ha35
   replace hr10 := Tr.trans hr10 hk34; replace hA := hk34.new; replace hH := hH37
   refine C_at (n := ⟨33, [], none⟩) (fun _ _ => rfl) ?_ ha35
   refine zo (Mm (Vy (zN rfl rfl) (As ?_)))
   obtain rfl := Oi h22
   refine zn (fun a ha59 => ?_)
   exact ⟨(s30, w64 (s17.2 + 1)), h23, ⟨A36, ha59.sb, ⟨hH, hr10⟩⟩⟩
  rw [if_neg (nt hc28)] at h22
  obtain rfl := Oi h22
  refine zQ (fun a ha60 => ?_)
  exact ⟨((s17.1, s17.2), A19), ha60.sb, ⟨h23.symm, hH, hr10⟩⟩
 rintro ⟨s9, A15⟩ w12 ⟨rfl, hH16, hk13⟩ a ha14
 rw [Lp.andThen_fin] at hm
 replace hK := Tr.trans hK hk13; replace hA := hk13.new; replace hH := hH16
 refine C_at (n := ⟨33, [], none⟩) (fun _ _ => rfl) ?_ ha14
 refine Sr (Mm (As (To ?_)))
 obtain rfl := Oi hm
 refine Rt (Res.one results139 rfl) ?_
 exact ⟨rfl, hK.kp⟩
theorem zdV (w : World) {A : Nat → Prop} (hA : ∀ b, w.heap.size ≤ b → A b) (d : zT) (b_d : Nat) (h_d : El A w b_d 0 d) (a_ : Int) (b : Int) {r : Int} (hm : jw d a_ b = some r) : Ret prog 140 #[Pt b_d, Ii a_, Ii b] w fun v w' => v = Ii r ∧ Kp Dw w w' := by
 unfold jw at hm
 refine enter func140 rfl ntmps140 rfl ?_
 have hA0 := hA
 obtain ⟨hB, hK, hH⟩ := St (Dw := Dw) hA
 refine Sr (As (To ?_))
 refine zh ?_
 refine zaL (Dw := Dw) (B := w.heap.size) (k := 14) [(7, 61, .agg #[Ii 0, Ii 0, Ii 0, .slice none 0 0]), (8, 61, .agg #[Ii 0, Ii 0, Ii 0, .slice none 0 0])] [(15, 6), (22, 13)] zH (by kernel_rfl) rfl ⟨⟨_, _, _, rfl, by simp⟩, zeroValue61, ⟨⟨_, _, _, rfl, by simp⟩, zeroValue61, trivial⟩⟩ ⟨⟨_, _, _, rfl, by decide, by decide⟩, by decide, rfl, sizeOf61, ⟨⟨_, _, _, rfl, by decide, by decide⟩, by decide, rfl, sizeOf61, trivial⟩⟩ rfl rfl (by decide) hH hB hA ?_
 simp only [List.take]
 refine Qm (Qn ?_)
 have h7 := zaR h_d
 refine Qf underlying184 rfl sizeOf22 ?_
 obtain ⟨v8, h9, h10⟩ := El.list h7
 refine Qc h9 isAgg22 (Qm ?_)
 obtain ⟨x11, hx11, hm⟩ := Bs hm
 refine Zl h10 hx11 underlying22 sizeOf61 rfl rfl rfl ?_
 intro b12 o13 h14
 obtain ⟨v15, h17, h16⟩ := Zo h14
 refine Qv (fun w' hw' => zx (At.kp h17 hw' h14.2.1) isAgg61 sizeOf61 rfl) (Qm (Qn ?_))
 have h18 := zaR h_d
 refine Qf underlying184 rfl sizeOf22 ?_
 obtain ⟨v19, h20, h21⟩ := El.list h18
 refine Qc h20 isAgg22 (Qm ?_)
 obtain ⟨x22, hx22, hm⟩ := Bs hm
 refine Zl h21 hx22 underlying22 sizeOf61 rfl rfl rfl ?_
 intro b23 o24 h25
 obtain ⟨v26, h28, h27⟩ := Zo h25
 refine Qv (fun w' hw' => zx (At.kp h28 hw' h25.2.1) isAgg61 sizeOf61 rfl) ?_
 have h31 := Sl.oc h27
 have h34 := Sl.oc h16
 refine ZK fun a ha => ⟨_, [.agg #[Ii x11.no, Ii x11.capacity, Ii x11.calendar, v15], .agg #[Ii x22.no, Ii x22.capacity, Ii x22.calendar, v26]], ha, rfl, rfl, ⟨rfl, (by exact (List.forall_mem_cons.2 ⟨rfl, (List.forall_mem_cons.2 ⟨rfl, (List.forall_mem_cons.2 ⟨rfl, (List.forall_mem_cons.2 ⟨h34, (fun _ h => nomatch h)⟩)⟩)⟩)⟩)), ⟨rfl, (by exact (List.forall_mem_cons.2 ⟨rfl, (List.forall_mem_cons.2 ⟨rfl, (List.forall_mem_cons.2 ⟨rfl, (List.forall_mem_cons.2 ⟨h31, (fun _ h => nomatch h)⟩)⟩)⟩)⟩)), trivial⟩⟩, fun b1 w2 A3 hH4 ht5 a ha6 => ?_⟩
 replace h_d := El.tr h_d ht5
 obtain ⟨h16, h27, hK, hB, hA⟩ := U2 ht5 hK hB h16 h27
 replace hH := hH4
 obtain ⟨A35, ht36, h37, hH38⟩ := Hp.freezeC (Dw := Dw) (α := zd) (x := x11) hH (i := 0) rfl hA (by exact ⟨[Ii x11.no], _, rfl, rfl, ⟨[Ii x11.capacity], _, rfl, rfl, ⟨[Ii x11.calendar], _, rfl, rfl, ⟨_, rfl, h16⟩⟩⟩⟩)
 replace h_d := El.tr h_d ht36
 obtain ⟨h27, hK, hB, hA⟩ := U1 ht36 hK hB h27
 replace hH := hH38
 obtain ⟨A39, ht40, h41, hH42⟩ := Hp.freezeC (Dw := Dw) (α := zd) (x := x22) hH (i := 0) rfl hA (by exact ⟨[Ii x22.no], _, rfl, rfl, ⟨[Ii x22.capacity], _, rfl, rfl, ⟨[Ii x22.calendar], _, rfl, rfl, ⟨_, rfl, h27⟩⟩⟩⟩)
 replace h_d := El.tr h_d ht40; replace h37 := El.tr h37 ht40
 obtain ⟨hK, hB, hA⟩ := U0 ht40 hK hB
 replace hH := hH42
 refine C_at (n := ⟨66, [], none⟩) (fun _ _ => rfl) ?_ ha6
 refine zh ?_
 refine ZZ (Dw := Dw) 41 zH (by kernel_rfl) ?_
 simp only [List.take, List.drop]
 refine Qm (Qn ?_)
 have h43 := zaG h_d
 refine Qf underlying184 rfl sizeOf26 ?_
 obtain ⟨v44, h45, h46⟩ := El.list h43
 refine Qc h45 isAgg26 (Qm ?_)
 obtain ⟨x47, hx47, hm⟩ := Bs hm
 refine Zl h46 hx47 underlying26 sizeOf3 rfl rfl rfl ?_
 intro b48 o49 h50
 refine Qi h50 isAgg3 ?_
 have h51 := qN h41
 refine Qf underlying61 rfl sizeOf3 (Qi h51 isAgg3 (Qv (fun w' hw' => zfi rfl rfl) (Qm (Qn ?_))))
 have h52 := zaG h_d
 refine Qf underlying184 rfl sizeOf26 ?_
 obtain ⟨v53, h54, h55⟩ := El.list h52
 refine Qc h54 isAgg26 (Qm ?_)
 obtain ⟨x56, hx56, hm⟩ := Bs hm
 refine Zl h55 hx56 underlying26 sizeOf3 rfl rfl rfl ?_
 intro b57 o58 h59
 refine Qi h59 isAgg3 ?_
 have h60 := qN h37
 refine Qf underlying61 rfl sizeOf3 (Qi h60 isAgg3 (Qv (fun w' hw' => zfi rfl rfl) ?_))
 refine Qo (Ii (zj (w64 (x47 * x22.capacity)) (w64 (x56 * x11.capacity)))) call55 rfl rfl rfl rfl (fun w' hw' => (ZO w' (w64 (x47 * x22.capacity)) (w64 (x56 * x11.capacity))).mono (fun _ _ h => ⟨h.1, h.2 ▸ hw'⟩)) ?_
 refine Qm (Qn ?_)
 have h61 := zcp h_d
 refine Qf underlying184 rfl sizeOf26 ?_
 obtain ⟨v62, h63, h64⟩ := El.list h61
 refine Qc h63 isAgg26 (Qm ?_)
 obtain ⟨x65, hx65, hm⟩ := Bs hm
 refine Zl h64 hx65 underlying26 sizeOf3 rfl rfl rfl ?_
 intro b66 o67 h68
 refine Qi h68 isAgg3 (Qm (Qn ?_))
 have h69 := zcp h_d
 refine Qf underlying184 rfl sizeOf26 ?_
 obtain ⟨v70, h71, h72⟩ := El.list h69
 refine Qc h71 isAgg26 (Qm ?_)
 obtain ⟨x73, hx73, hm⟩ := Bs hm
 refine Zl h72 hx73 underlying26 sizeOf3 rfl rfl rfl ?_
 intro b74 o75 h76
 refine Qi h76 isAgg3 ?_
 refine Qo (Ii (zj x65 x73)) call55 rfl rfl rfl rfl (fun w' hw' => (ZO w' x65 x73).mono (fun _ _ h => ⟨h.1, h.2 ▸ hw'⟩)) ?_
 have h77 := ZB h37
 refine Qf underlying61 rfl sizeOf3 (Qi h77 isAgg3 ?_)
 have h78 := ZB h41
 refine Qf underlying61 rfl sizeOf3 (Qi h78 isAgg3 ?_)
 refine Qo (Ii (zj x11.no x22.no)) call55 rfl rfl rfl rfl (fun w' hw' => (ZO w' x11.no x22.no).mono (fun _ _ h => ⟨h.1, h.2 ▸ hw'⟩)) ?_
 refine QU (fun w79 hk80 => ?_)
 try simp only [List.take, List.drop]
 have ht81 := Kp.tr hk80 hA hB
 obtain ⟨hK, hB, hA⟩ := U0 ht81 hK hB
 refine zX (Dw := Dw) (cells := #[Ii (zj (w64 (x47 * x22.capacity)) (w64 (x56 * x11.capacity))), Ii (zj x65 x73), Ii (zj x11.no x22.no)]) (l := ([(zj (w64 (x47 * x22.capacity)) (w64 (x56 * x11.capacity))), (zj x65 x73), (zj x11.no x22.no)] : List Int)) (len := 3) underlying26 sizeOf3 zeroValue3 rfl (by generalize ((zj (w64 (x47 * x22.capacity)) (w64 (x56 * x11.capacity))) : Int) = z86; generalize ((zj x11.no x22.no) : Int) = z87; generalize ((zj x65 x73) : Int) = z88; kernel_rfl) (show (3 * 1 : Nat) ≠ 0 by decide) (show (3 * 1 : Nat) ≤ 2 ^ 24 by decide) hA ⟨[Ii (zj (w64 (x47 * x22.capacity)) (w64 (x56 * x11.capacity)))], _, rfl, rfl, ⟨[Ii (zj x65 x73)], _, rfl, rfl, ⟨[Ii (zj x11.no x22.no)], _, rfl, rfl, rfl⟩⟩⟩ rfl rfl ?_
 intro v82 w83 hk85 h84
 have ht89 := Kp.tr hk85 hA hB; replace hK := Tt hK ht89
 obtain ⟨x90, hx90, hm⟩ := Bs hm
 refine Vc call131 (zcd w83 ([(zj (w64 (x47 * x22.capacity)) (w64 (x56 * x11.capacity))), (zj x65 x73), (zj x11.no x22.no)] : List Int) v82 h84 hx90) ?_
 rintro _ _ ⟨rfl, rfl⟩
 refine As (To ?_)
 obtain rfl := Oi hm
 refine Rt (Res.one results140 rfl) ?_
 exact ⟨rfl, hK.kp⟩
theorem zdT (w : World) {A : Nat → Prop} (hA : ∀ b, w.heap.size ≤ b → A b) (d : zT) (b_d : Nat) (h_d : El A w b_d 0 d) (w_ : za) (v_w_ : Value) (h_w_ : Sl A w v_w_ w_.needs) (needs : (List zi)) (v_needs : Value) (h_needs : Sl A w v_needs needs) {r : Int} (hm : qM d w_ needs = some r) : Ret prog 115 #[Pt b_d, .agg #[Ii w_.ticket, Ii w_.weight, Ii w_.urgency, Ii w_.since, Ii w_.former, v_w_], v_needs] w fun v w' => v = Ii r ∧ Kp Dw w w' := by
 unfold qM at hm
 refine enter func115 rfl ntmps115 rfl ?_
 have hA0 := hA
 obtain ⟨hB, hK, hH⟩ := St (Dw := Dw) hA
 refine Sr ?_
 refine Zy rfl rfl ?_
 intro b5 w6 h7
 have hk9 := h7.kp (Dw := Dw)
 have h8 : El (α := za) A w6 b5 0 w_ := h7.el hA ⟨[Ii w_.ticket], _, rfl, rfl, ⟨[Ii w_.weight], _, rfl, rfl, ⟨[Ii w_.urgency], _, rfl, rfl, ⟨[Ii w_.since], _, rfl, rfl, ⟨[Ii w_.former], _, rfl, rfl, ⟨_, rfl, h_w_⟩⟩⟩⟩⟩⟩
 have ht10 := Kp.tr hk9 hA hB; replace hH := Hp.kp hH hk9; replace h_d := El.tr h_d ht10
 obtain ⟨h_needs, hK, hB, hA⟩ := U1 ht10 hK hB h_needs
 refine As (To ?_)
 refine Sr (As (To ?_))
 refine zh (Sr (Mm (Nc ?_)))
 have h11 := zaR h_d
 refine Fa underlying184 rfl sizeOf22 ?_
 obtain ⟨v12, h13, h14⟩ := El.list h11
 refine Ld h13 isAgg22 (Vy (zA h14 rfl underlying22 rfl) (Mm (To ?_)))
 replace hH : Hp w.heap.size A w6 (o_3 (.slice none 0 0) ([] : (List Int)) :: []) := Hp.addNil (α := Int) (e := 3) hH
 have hn39 := Sl.le h14
 obtain ⟨o15, ho15, hm⟩ := Bs hm
 refine zu (ι := ((List Int) × Value × (Nat → Prop))) (fun ⟨s16, v22, A24⟩ => [(0, Pt b_d), (7, v22)]) (fun ⟨s16, v22, A24⟩ => fun w' => o15 = .fin s16 ∧ Hp w.heap.size A24 w' (o_3 v22 s16 :: []) ∧ Tr Dw w.heap.size A w6 A24 w') ?_ ?_
 ·refine zl ?_
  refine zS ho15 (fun k18 s26 a w' => ∃ i : (Value × (Nat → Prop)), Has ⟨67, [], none⟩ a ([(0, Pt b_d), (2, v_needs), (4, Pt b5), (7, i.1), (13, v12), (14, Ii (d.people.length : Int)), (15, Ii (k18 : Int))]) ∧ Hp w.heap.size i.2 w' (o_3 i.1 s26 :: []) ∧ Tr Dw w.heap.size A w6 i.2 w') (fun a ha => ⟨(.slice none 0 0, A), ha.sb, ⟨hH, Tr.refl (Dw := Dw) hA⟩⟩) ?_
  rintro K k18 s26 a w27 ⟨⟨v28, A30⟩, ha118, hH31, hr17⟩ hle35 K38 h37
  refine C_of ?_ ha118
  replace h_d := El.tr h_d hr17; replace h8 := El.tr h8 hr17
  obtain ⟨h_needs, h14, hK, hB, hA⟩ := U2 hr17 hK hB h_needs h14
  replace hH := hH31
  refine Sr (Vy (zR rfl rfl) (To ?_))
  refine zh ?_
  refine Cc (fun hc40 => ?_) fun hc40 => ?_
  ·have hlt36 := zL hc40
   obtain ⟨x32, h33, h34⟩ := K38 hlt36
   refine Sk ?_
   refine zh ?_
   obtain ⟨o41, ho41, h33⟩ := Bs h33
   refine zu (ι := ((List Int) × Value × (Nat → Prop))) (fun ⟨s42, v44, A49⟩ => [(0, Pt b_d), (2, v_needs), (4, Pt b5), (7, v44), (13, v12), (14, Ii (d.people.length : Int)), (15, Ii (k18 : Int))]) (fun ⟨s42, v44, A49⟩ => fun w' => o41 = .fin s42 ∧ Hp w.heap.size A49 w' (o_3 v44 s42 :: []) ∧ Tr Dw w.heap.size A30 w27 A49 w') ?_ ?_
   ·have hr43 : Tr Dw w.heap.size A30 w27 A30 w27 := Tr.refl (Dw := Dw) hA
    refine zl (Sr (Mm ?_))
    obtain ⟨x51, hx51, ho41⟩ := Bs ho41
    refine zy h14 hx51 underlying22 sizeOf61 rfl rfl rfl ?_
    intro b52 o53 h54
    obtain ⟨v55, h57, h56⟩ := Zo h54
    refine Vy (zx h57 isAgg61 sizeOf61 rfl) ?_
    refine Zf zeroValue61 rfl ?_
    intro b58 w59 h60
    refine As ?_
    have h65 := Sl.oc h56
    refine Sn h60 sizeOf61 ?_
    intro w61 h62
    have hk67 := h62.kp (Dw := Dw)
    have h66 : El (α := zd) A30 w61 b58 0 x51 := h62.el hA ⟨[Ii x51.no], _, rfl, rfl, ⟨[Ii x51.capacity], _, rfl, rfl, ⟨[Ii x51.calendar], _, rfl, rfl, ⟨_, rfl, h56⟩⟩⟩⟩
    have ht68 := Kp.tr hk67 hA hB; replace hH := Hp.kp hH hk67; replace h_d := El.tr h_d ht68; replace h8 := El.tr h8 ht68; replace hr43 := Tt hr43 ht68
    obtain ⟨h_needs, hK, hB, hA⟩ := U1 ht68 hK hB h_needs
    refine To ?_
    refine zh (zh ?_)
    refine ZR (Dw := Dw) zH (by kernel_rfl) ?_
    refine Qm (Qn ?_)
    have h69 := zfh h_d
    refine Qf underlying184 rfl sizeOf54 ?_
    obtain ⟨v70, h71, h72⟩ := El.list h69
    refine Qc h71 isAgg54 (Qm ?_)
    obtain ⟨x73, hx73, ho41⟩ := Bs ho41
    refine Zl h72 hx73 underlying54 sizeOf4 rfl rfl rfl ?_
    intro b74 o75 h76
    refine Ql (fun w' hw' => (El.bool (El.kp h76 hw'))) isAgg4 (Qv (fun w' hw' => Zs rfl) (Qm ?_))
    obtain ⟨s78, hs78, ho41⟩ := Bs ho41
    refine jG 14 (fun _ : Unit => [(0, Pt b_d), (2, v_needs), (4, Pt b5), (7, v28), (8, Ii (k18 : Int)), (9, Pt b58), (13, v12), (14, Ii (d.people.length : Int)), (15, Ii (k18 : Int)), (42, .bool s78)]) (fun _ => True) ?_ ?_
    ·simp only [List.take, List.drop]
     rcases Be (!x73) with hc77 | hc77
     ·rw [if_pos hc77] at hs78
      refine Qg hc77 (Qg hc77 (Qg hc77 (Qg hc77 (Qg hc77 (Qg hc77 (Qg hc77 (Qg hc77 (Qg hc77 (Qg hc77 ?_)))))))))
      refine Qg hc77 (Qg hc77 (Qg hc77 ?_))
      refine VQ_y (fun _ _ => zF rfl hc77 rfl) rfl rfl rfl ?_
      obtain rfl := Oi hs78
      exact ZK fun a ha => ⟨(), ha.sb, trivial⟩
     rw [if_neg (nt hc77)] at hs78
     refine Qh hc77 ?_
     have h79 := qN h66
     refine Qf underlying61 rfl sizeOf3 (Qh hc77 (Qi h79 isAgg3 (Qh hc77 (Qm (Qh hc77 (Qn (Qh hc77 ?_)))))))
     have h80 := zaG h_d
     refine Qf underlying184 rfl sizeOf26 (Qh hc77 ?_)
     obtain ⟨v81, h82, h83⟩ := El.list h80
     refine Qc h82 isAgg26 (Qh hc77 (Qm (Qh hc77 ?_)))
     obtain ⟨x84, hx84, hs78⟩ := Bs hs78
     refine Zl h83 hx84 underlying26 sizeOf3 rfl rfl rfl ?_
     intro b85 o86 h87
     refine Qh hc77 (Qi h87 isAgg3 (Qh hc77 (Qv (fun w' hw' => Qw rfl rfl) (Qh hc77 ?_))))
     have h88 := Jc h8
     refine Qf underlying38 rfl sizeOf3 (Qh hc77 (Qi h88 isAgg3 (Qh hc77 (Qv (fun w' hw' => zR rfl rfl) ?_))))
     refine VQ_y (fun _ _ => zG rfl hc77 rfl) rfl rfl rfl ?_
     obtain rfl := Oi hs78
     exact ZK fun a ha => ⟨(), ha.sb, trivial⟩
    simp only [List.take, List.drop]
    rintro _ _
    refine Qm ?_
    obtain ⟨s90, hs90, ho41⟩ := Bs ho41
    refine jG 5 (fun _ : Unit => [(0, Pt b_d), (2, v_needs), (4, Pt b5), (7, v28), (8, Ii (k18 : Int)), (9, Pt b58), (13, v12), (14, Ii (d.people.length : Int)), (15, Ii (k18 : Int)), (48, .bool s90)]) (fun _ => True) ?_ ?_
    ·simp only [List.take, List.drop]
     rcases Be (s78) with hc89 | hc89
     ·rw [if_pos hc89] at hs90
      refine Qg hc89 (Qg hc89 (Qg hc89 (Qg hc89 ?_)))
      refine VQ_y (fun _ _ => zF rfl hc89 rfl) rfl rfl rfl ?_
      obtain rfl := Oi hs90
      exact ZK fun a ha => ⟨(), ha.sb, trivial⟩
     rw [if_neg (nt hc89)] at hs90
     refine Qh hc89 ?_
     obtain ⟨v91, h93, h92⟩ := Zo h66
     refine Qv (fun w' hw' => zx (At.kp h93 hw' h66.2.1) isAgg61 sizeOf61 rfl) (Qh hc89 (Qm (Qh hc89 ?_)))
     obtain ⟨x94, hx94, hs90⟩ := Bs hs90
     refine Qo (.bool x94) call71 rfl rfl rfl rfl (fun w' hw' => (zaW (Dw := Dw) w' (fun b hb => hA b (Nat.le_trans hw'.size hb)) x51 v91 (Sl.kp h92 hw') needs v_needs (Sl.kp h_needs hw') hx94).mono (fun _ _ h => ⟨h.1, Kp.trans (Dw := Dw) hw' h.2⟩)) ?_
     refine Qh hc89 (Qv (fun w' hw' => Zs rfl) ?_)
     refine VQ_y (fun _ _ => zG rfl hc89 rfl) rfl rfl rfl ?_
     obtain rfl := Oi hs90
     exact ZK fun a ha => ⟨(), ha.sb, trivial⟩
    simp only [List.take, List.drop]
    rintro _ _
    refine jR (fun _ _ => rfl) (fun w95 hk96 => ?_)
    have ht97 := Kp.tr hk96 hA hB; replace hH := Hp.kp hH hk96; replace h8 := El.tr h8 ht97; replace h66 := El.tr h66 ht97; replace hr43 := Tt hr43 ht97
    obtain ⟨hK, hB, hA⟩ := U0 ht97 hK hB
    refine Cc (fun hc98 => ?_) fun hc98 => ?_
    ·rw [if_pos hc98] at ho41
     obtain rfl := Oi ho41
     refine zQ (fun a ha99 => ?_)
     exact ⟨(s26, v28, A30), ha99.sb, ⟨rfl, hH, hr43⟩⟩
    rw [if_neg (nt hc98)] at ho41
    refine Sk ?_
    refine zh (Sr ?_)
    have h100 := ZB h66
    refine Fa underlying61 rfl sizeOf3 (Li h100 isAgg3 ?_)
    have h101 := zcw h8
    refine Fa underlying38 rfl sizeOf3 (Li h101 isAgg3 (Vy (ql rfl rfl) (To ?_)))
    refine Cc (fun hc102 => ?_) fun hc102 => ?_
    ·rw [if_pos hc102] at ho41
     refine Sr (Mm (As (To ?_)))
     obtain rfl := Oi ho41
     rw [Lp.andThen_rt] at h33
     obtain rfl := Oi h33
     obtain rfl := (h34 : Lp.rt _ = _)
     rw [Lp.andThen_rt] at hm
     obtain rfl := Oi hm
     refine Rt (Res.one results115 rfl) ?_
     exact ⟨rfl, hK.kp⟩
    rw [if_neg (nt hc102)] at ho41
    refine Sk ?_
    refine zo (Mm (Mm ?_))
    refine zX (Dw := Dw) (cells := #[Ii (k18 : Int)]) (l := ([(k18 : Int)] : List Int)) (len := 1) underlying26 sizeOf3 zeroValue3 rfl (by generalize ((k18 : Int) : Int) = z107; kernel_rfl) (show (1 * 1 : Nat) ≠ 0 by decide) (show (1 * 1 : Nat) ≤ 2 ^ 24 by decide) hA ⟨[Ii (k18 : Int)], _, rfl, rfl, rfl⟩ rfl rfl ?_
    intro v103 w104 hk106 h105
    have ht108 := Kp.tr hk106 hA hB; replace hH := Hp.kp hH hk106; replace hr43 := Tt hr43 ht108; replace hB := Bx hB ht108; replace hA := ht108.new
    obtain ⟨x109, hx109, ho41⟩ := Bs ho41
    refine Zv (Dw := Dw) (e := 3) (v := v28) (l := s26) (ti := t3) (bytes := 8) (lim := 17592186044416) hH (i := 0) rfl h105 hx109 underlying26 QY rfl rfl rfl rfl (by decide) (by decide) (by decide) hB hA rfl rfl rfl ?_
    intro v110 w111 A112 hH113 ht114
    replace hr43 := Tt hr43 ht114; replace hH := hH113
    refine As ?_
    obtain rfl := Oi ho41
    refine zn (fun a ha115 => ?_)
    exact ⟨(x109, v110, A112), ha115.sb, ⟨rfl, hH, hr43⟩⟩
   rintro ⟨s42, v44, A49⟩ w46 ⟨rfl, hH50, hk47⟩ a ha48
   rw [Lp.andThen_fin] at h33
   replace hr17 := Tr.trans hr17 hk47; replace hA := hk47.new; replace hH := hH50
   refine C_at (n := ⟨67, [], none⟩) (fun _ _ => rfl) ?_ ha48
   refine zo (Vy (zN rfl rfl) (Mm ?_))
   obtain rfl := Oi h33
   refine zn (fun a ha116 => ?_)
   exact ⟨s42, hlt36, h34, ⟨(v44, A49), ha116.sub ⟨rfl, rfl, rfl, rfl, rfl, rfl, Ws hlt36 hn39, trivial⟩, ⟨hH, hr17⟩⟩⟩
  refine zQ (fun a ha117 => ?_)
  exact ⟨(s26, v28, A30), ha117.sb, ⟨(h37 (zK hle35 hc40)).symm, hH, hr17⟩⟩
 rintro ⟨s16, v22, A24⟩ w19 ⟨rfl, hH25, hk20⟩ a ha21
 rw [Lp.andThen_fin] at hm
 replace h_d := El.tr h_d hk20; replace hK := Tr.trans hK hk20; replace hB := Nat.le_trans hB hk20.ex.size; replace hA := hk20.new; replace hH := hH25
 refine C_at (n := ⟨67, [], none⟩) (fun _ _ => rfl) ?_ ha21
 refine zh (Sr (Mm (Vy (zA (Hp.any (α := Int) (e := 3) (v := v22) (l := s16) hH (i := 0) rfl) rfl underlying26 rfl) (Vy (ql rfl rfl) (To ?_)))))
 refine Cc (fun hc119 => ?_) fun hc119 => ?_
 ·rw [if_pos hc119] at hm
  refine Sr (As (To ?_))
  obtain rfl := Oi hm
  refine Rt (Res.one results115 rfl) ?_
  exact ⟨rfl, hK.kp⟩
 rw [if_neg (nt hc119)] at hm
 refine Sk ?_
 refine Sr (Mm (Mm (Vy (qk rfl rfl) ?_)))
 obtain ⟨x122, hx122, hm⟩ := Bs hm
 refine Vc call139 (zbM (Dw := Dw) w19 (A := fun _ => True) (fun _ _ => trivial) s16 v22 (Hp.any (α := Int) (e := 3) (v := v22) (l := s16) hH (i := 0) rfl) (fun y131 y132 => jw d y131 y132) 140 #[Pt b_d] #[] call140 (fun w127 A128 ht129 h130 y123 y124 r125 h126 => (zdV (Dw := Dw) w127 h130 d b_d (El.tr (El.keep h_d .any) ht129) y123 y124  h126).mono (fun _ _ h => ⟨h.1, h.2⟩)) hx122) ?_
 rintro _ w133 ⟨rfl, hk134⟩
 have ht135 := Kp.tr hk134 hA hB; replace hK := Tt hK ht135
 refine As (To ?_)
 obtain rfl := Oi hm
 refine Rt (Res.one results115 rfl) ?_
 exact ⟨rfl, hK.kp⟩
theorem zcm (w : World) {A : Nat → Prop} {B : Nat} (hB : B ≤ w.heap.size) (hA : ∀ b, w.heap.size ≤ b → A b) (a_ : ze) (b_a_ : Nat) (v_a_0 : Value) (h_a_0 : Sl A w v_a_0 a_.assigner.people) (v_a_1 : Value) (h_a_1 : Sl A w v_a_1 a_.assigner.cals) (v_a_2 : Value) (h_a_2 : Sl A w v_a_2 a_.assigner.steps) (v_a_3 : Value) (v_a_4 : Value) (h_a_4 : Sl A w v_a_4 a_.waiting) (v_a_5 : Value) (h_a_5 : Sl A w v_a_5 a_.held) (m_a_0 : Nat) (held : (List zb)) (v_held : Value) (h_held : Sl A w v_held held) (waiting : (List za)) (v_waiting : Value) (h_waiting : Sl A w v_waiting waiting) (m : Int) {L : List Ob} (hH : Hp B A w (obC b_a_ [v_a_0, v_a_1, v_a_2, v_a_3, Ii a_.now, v_a_4, v_a_5, .map (some m_a_0)] 58 :: o_4 v_a_3 a_.assigner.away :: obRM (κ := Int) (α := za) m_a_0 a_.work :: L)) {r : ((List zb) × (List za))} (hm : Qp a_ held waiting m = some r) : Ret prog 86 #[Pt b_a_, v_held, v_waiting, Ii m] w fun v w' => ∃ s0, ∃ s1, ∃ A1 : Nat → Prop, v = .tuple #[s0, s1] ∧ Hp B A1 w' (o_46 s0 r.1 :: o_38 s1 r.2 :: obC b_a_ [v_a_0, v_a_1, v_a_2, v_a_3, Ii a_.now, v_a_4, v_a_5, .map (some m_a_0)] 58 :: o_4 v_a_3 a_.assigner.away :: obRM (κ := Int) (α := za) m_a_0 a_.work :: L) ∧ Tr Dw B A w A1 w' := by
 unfold Qp at hm
 refine enter func86 rfl ntmps86 rfl ?_
 have hK : Tr Dw B A w A w := Tr.refl (Dw := Dw) hA
 refine Sr (As (As (To ?_)))
 refine Sr (Mm (Mm (Mm ?_)))
 replace hH := Hf 2 (Hf 2 (Hf 2 hH))
 obtain ⟨x18, hx18, hm⟩ := Bs hm
 refine Vc call113 (zdU (Dw := Dw) w hB hA a_ b_a_ v_a_0 h_a_0 v_a_1 h_a_1 v_a_2 h_a_2 v_a_3 v_a_4 h_a_4 v_a_5 h_a_5 m_a_0 held v_held h_held m hH hx18) ?_
 rintro _ w28 ⟨b19, v20, v22, v24, v26, A29, rfl, h21, hH30, ht31⟩
 obtain ⟨h_waiting, h_a_0, h_a_2, hK, hB, hA⟩ := U3 ht31 hK hB h_waiting h_a_0 h_a_2
 replace hH := hH30
 refine As (To ?_)
 refine Sr (Mm (Vy (zA h_waiting rfl underlying25 rfl) ?_))
 obtain ⟨x32, hx32, hm⟩ := Bs hm
 refine jl (Dw := Dw) (e := 4) (ti := t4) hH hx32 (fun _ _ => rfl) underlying54 jV rfl rfl rfl (by decide) (by decide) hB hA rfl rfl rfl ?_
 intro v33 w34 A35 hH36 ht37
 obtain ⟨h_waiting, h21, h_a_0, h_a_2, hK, hB, hA⟩ := U4 ht37 hK hB h_waiting h21 h_a_0 h_a_2
 replace hH := hH36
 refine As (To ?_)
 refine Sr (As (To ?_))
 refine zh (Sr (Mm ?_))
 obtain ⟨x38, hx38, hm⟩ := Bs hm
 refine Vc call114 (zgP (Dw := Dw) w34 hA waiting v_waiting h_waiting hx38) ?_
 rintro v39 w41 ⟨_, rfl, h40, hk42⟩
 obtain ⟨A43, ht44, hH45⟩ := Hp.addOwnd (Dw := Dw) hH hB hA hk42 h40
 obtain ⟨h_waiting, h21, h_a_0, h_a_2, hK, hB, hA⟩ := U4 ht44 hK hB h_waiting h21 h_a_0 h_a_2
 replace hH := hH45
 refine Vy (zA (Hp.any (α := Int) (e := 3) (v := v39) (l := x38) hH (i := 0) rfl) rfl underlying26 rfl) (Mm (To ?_))
 replace hH : Hp B A43 w41 (o_46 (.slice none 0 0) ([] : (List zb)) :: o_3 v39 x38 :: o_4 v33 x32 :: obC b19 [v20, v22, v24, v26] 184 :: o_4 v22 x18.duty :: o_3 v24 x18.weights :: o_3 v26 x18.latest :: obC b_a_ [v_a_0, v_a_1, v_a_2, v_a_3, Ii a_.now, v_a_4, v_a_5, .map (some m_a_0)] 58 :: o_4 v_a_3 a_.assigner.away :: obRM (κ := Int) (α := za) m_a_0 a_.work :: L) := Hp.addNil (α := zb) (e := 46) hH
 have hn90 := Hp.le (α := Int) (e := 3) (v := v39) (l := x38) hH (i := 1) rfl
 obtain ⟨o46, ho46, hm⟩ := Bs hm
 refine zu (ι := (((List Bool) × (List zb) × zT) × Value × Value × Value × Value × Value × Value × (Nat → Prop))) (fun ⟨s47, v53, v55, v57, v59, v61, v63, A65⟩ => [(2, v_waiting), (11, v53), (12, v55)]) (fun ⟨s47, v53, v55, v57, v59, v61, v63, A65⟩ => fun w' => o46 = .fin s47 ∧ Sl A65 w' v57 s47.2.2.people ∧ Hp B A65 w' (o_46 v55 s47.2.1 :: o_3 v39 x38 :: o_4 v53 s47.1 :: obC b19 [v57, v59, v61, v63] 184 :: o_4 v59 s47.2.2.duty :: o_3 v61 s47.2.2.weights :: o_3 v63 s47.2.2.latest :: obC b_a_ [v_a_0, v_a_1, v_a_2, v_a_3, Ii a_.now, v_a_4, v_a_5, .map (some m_a_0)] 58 :: o_4 v_a_3 a_.assigner.away :: obRM (κ := Int) (α := za) m_a_0 a_.work :: L) ∧ Tr Dw B A43 w41 A65 w') ?_ ?_
 ·refine zl ?_
  refine zS ho46 (fun k49 s67 a w' => ∃ i : (Value × Value × Value × Value × Value × Value × (Nat → Prop)), Has ⟨120, [], none⟩ a ([(0, Pt b_a_), (2, v_waiting), (3, Ii m), (10, Pt b19), (11, i.1), (12, i.2.1), (28, v39), (29, Ii (x38.length : Int)), (30, Ii (k49 : Int))]) ∧ Sl i.2.2.2.2.2.2 w' i.2.2.1 s67.2.2.people ∧ Hp B i.2.2.2.2.2.2 w' (o_46 i.2.1 s67.2.1 :: o_3 v39 x38 :: o_4 i.1 s67.1 :: obC b19 [i.2.2.1, i.2.2.2.1, i.2.2.2.2.1, i.2.2.2.2.2.1] 184 :: o_4 i.2.2.2.1 s67.2.2.duty :: o_3 i.2.2.2.2.1 s67.2.2.weights :: o_3 i.2.2.2.2.2.1 s67.2.2.latest :: obC b_a_ [v_a_0, v_a_1, v_a_2, v_a_3, Ii a_.now, v_a_4, v_a_5, .map (some m_a_0)] 58 :: o_4 v_a_3 a_.assigner.away :: obRM (κ := Int) (α := za) m_a_0 a_.work :: L) ∧ Tr Dw B A43 w41 i.2.2.2.2.2.2 w') (fun a ha => ⟨(v33, .slice none 0 0, v20, v22, v24, v26, A43), ha.sb, ⟨h21, hH, Tr.refl (Dw := Dw) hA⟩⟩) ?_
  rintro K k49 s67 a w68 ⟨⟨v69, v71, v73, v75, v77, v79, A81⟩, ha224, h74, hH82, hr48⟩ hle86 K89 h88
  refine C_of ?_ ha224
  replace hB := Bx hB hr48; replace hA := hr48.new
  obtain ⟨h_waiting, h_a_0, h_a_2⟩ := T3 hr48 h_waiting h_a_0 h_a_2
  replace hH := hH82
  refine Sr (Vy (zR rfl rfl) (To ?_))
  refine zh ?_
  refine Cc (fun hc91 => ?_) fun hc91 => ?_
  ·have hlt87 := zL hc91
   obtain ⟨x83, h84, h85⟩ := K89 hlt87
   refine Sk ?_
   refine zh ?_
   obtain ⟨s93, ho92, h84⟩ := Bs h84
   refine zu (ι := (Value × Value × Value × Value × Value × Value × (Nat → Prop))) (fun ⟨v95, v97, v99, v101, v103, v105, A110⟩ => [(0, Pt b_a_), (2, v_waiting), (3, Ii m), (10, Pt b19), (11, v95), (12, v97), (28, v39), (29, Ii (x38.length : Int)), (30, Ii (k49 : Int))]) (fun ⟨v95, v97, v99, v101, v103, v105, A110⟩ => fun w' => Sl A110 w' v99 s93.2.2.people ∧ Hp B A110 w' (o_46 v97 s93.2.1 :: o_3 v39 x38 :: o_4 v95 s93.1 :: obC b19 [v99, v101, v103, v105] 184 :: o_4 v101 s93.2.2.duty :: o_3 v103 s93.2.2.weights :: o_3 v105 s93.2.2.latest :: obC b_a_ [v_a_0, v_a_1, v_a_2, v_a_3, Ii a_.now, v_a_4, v_a_5, .map (some m_a_0)] 58 :: o_4 v_a_3 a_.assigner.away :: obRM (κ := Int) (α := za) m_a_0 a_.work :: L) ∧ Tr Dw B A81 w68 A110 w') ?_ ?_
   ·have hr94 : Tr Dw B A81 w68 A81 w68 := Tr.refl (Dw := Dw) hA
    refine zl (Sr ?_)
    obtain ⟨x112, hx112, ho92⟩ := Bs ho92
    refine ZQ (α := Int) (e := 3) (v := v39) (l := x38) hH (i := 1) rfl hx112 underlying26 sizeOf3 rfl rfl rfl ?_
    intro b113 o114 h115 hl116
    refine Li h115 isAgg3 (As (To ?_))
    refine Sr (Mm (Mm ?_))
    obtain ⟨x117, hx117, ho92⟩ := Bs ho92
    refine zy h_waiting hx117 underlying25 sizeOf38 rfl rfl rfl ?_
    intro b118 o119 h120
    obtain ⟨v121, h123, h122⟩ := Zt h120
    refine Vy (zx h123 isAgg38 sizeOf38 rfl) ?_
    refine Zf zeroValue38 rfl ?_
    intro b124 w125 h126
    have h131 := Sl.oc h122
    refine Sn h126 sizeOf38 ?_
    intro w127 h128
    have hk133 := h128.kp (Dw := Dw)
    have h132 : El (α := za) A81 w127 b124 0 x117 := h128.el hA ⟨[Ii x117.ticket], _, rfl, rfl, ⟨[Ii x117.weight], _, rfl, rfl, ⟨[Ii x117.urgency], _, rfl, rfl, ⟨[Ii x117.since], _, rfl, rfl, ⟨[Ii x117.former], _, rfl, rfl, ⟨_, rfl, h122⟩⟩⟩⟩⟩⟩
    have ht134 := Kp.tr hk133 hA hB; replace hH := Hp.kp hH hk133; replace hr94 := Tt hr94 ht134; replace hB := Bx hB ht134; replace hA := ht134.new
    obtain ⟨h74, h_a_0, h_a_2⟩ := T3 ht134 h74 h_a_0 h_a_2
    refine To ?_
    refine zh ?_
    refine qX (Dw := Dw) A81 11 [(1, 0), (1, 1), (1, 2), (1, 3), (1, 4), (1, 5), (0, 6), (1, 7), (2, 8), (2, 9), (1, 10)] zH (by kernel_rfl) (fun w135 hk136 => ?_)
    have ht137 := Kp.tr hk136 hA hB; replace hH := Hp.kp hH hk136; replace h132 := El.tr h132 ht137; replace hr94 := Tt hr94 ht137; replace hB := Bx hB ht137; replace hA := ht137.new
    obtain ⟨h74, h_a_0, h_a_2⟩ := T3 ht137 h74 h_a_0 h_a_2
    refine zI rfl (Qm (zB (zI rfl ?_)))
    obtain ⟨v138, h140, h139⟩ := Zt h132
    refine Qv (fun w' hw' => zx (At.same h140 (hw'.2 _ h132.2.1 h132.1)) isAgg38 sizeOf38 rfl) (zB (zI rfl ?_))
    obtain ⟨v141, h143, h142⟩ := Zt h132
    refine Qv (fun w' hw' => zx (At.same h143 (hw'.2 _ h132.2.1 h132.1)) isAgg38 sizeOf38 rfl) (zB (zI rfl (Qm (zB (zI rfl (Qn (zB (zI rfl (Qv (fun w' hw' => Fc 2 underlying56 rfl sizeOf24 rfl rfl) ?_)))))))))
    refine zB (qF rfl (Qc (Hc 2 7 hH rfl rfl) isAgg24 (zB (zI rfl (Qm (zB ?_))))))
    refine qw (k := 0) rfl ?_
    obtain ⟨x144, hx144, ho92⟩ := Bs ho92
    refine Vc call70 (zcs (Dw := Dw) w135 hA x117 v141 h142 a_.assigner.steps v_a_2 h_a_2 m hx144) ?_
    rintro v145 w147 ⟨_, rfl, h146, hk148⟩
    obtain ⟨A149, ht150, hH151⟩ := Hp.addOwnd (Dw := Dw) hH hB hA hk148 h146
    replace h132 := El.tr h132 ht150; replace hr94 := Tt hr94 ht150; replace hB := Bx hB ht150; replace hA := ht150.new
    obtain ⟨h139, h74, h_a_0⟩ := T3 ht150 h139 h74 h_a_0
    replace hH := hH151
    refine V_CH (hk148) ?_
    refine qw (k := 0) rfl ?_
    obtain ⟨x152, hx152, ho92⟩ := Bs ho92
    refine Vc call115 (zdT (Dw := Dw) w147 (A := fun _ => True) (fun _ _ => trivial) s67.2.2 b19 (Hp.el (α := zT) (x := s67.2.2) hH (i := 4) rfl ⟨[v73], _, rfl, ⟨_, rfl, (Sl.any h74)⟩, ⟨[v75], _, rfl, ⟨_, rfl, (Hp.any (α := Bool) (e := 4) (v := v75) (l := s67.2.2.duty) hH (i := 5) rfl)⟩, ⟨[v77], _, rfl, ⟨_, rfl, (Hp.any (α := Int) (e := 3) (v := v77) (l := s67.2.2.weights) hH (i := 6) rfl)⟩, ⟨_, rfl, (Hp.any (α := Int) (e := 3) (v := v79) (l := s67.2.2.latest) hH (i := 7) rfl)⟩⟩⟩⟩) x117 v138 (Sl.any h139) x144 v145 (Hp.any (α := zi) (e := 64) (v := v145) (l := x144) hH (i := 0) rfl) hx152) ?_
    rintro _ w153 ⟨rfl, hk154⟩
    have ht155 := Kp.tr hk154 hA hB; replace hH := Hp.kp hH hk154; replace h132 := El.tr h132 ht155; replace hr94 := Tt hr94 ht155; replace hB := Bx hB ht155; replace hA := ht155.new
    obtain ⟨h74, h_a_0⟩ := T2 ht155 h74 h_a_0
    refine V_CH (hk154) ?_
    refine zI rfl (Qa (zB ?_))
    refine jC ?_
    show V _ _ _ _ [] _ _
    refine To ?_
    refine zh (Sr (Mm (Vy (zR rfl rfl) (To ?_))))
    refine Cc (fun hc156 => ?_) fun hc156 => ?_
    ·rw [if_pos hc156] at ho92
     obtain rfl := Oi ho92
     refine zQ (fun a ha157 => ?_)
     replace hH := Hd 10 (Hf 10 (Hf 10 (Hf 10 (Hf 10 (Hf 10 (Hf 10 (Hf 10 (Hf 10 (Hf 10 (Hf 10 hH))))))))))
     exact ⟨(v69, v71, v73, v75, v77, v79, A149), ha157.sb, ⟨h74, hH, hr94⟩⟩
    rw [if_neg (nt hc156)] at ho92
    refine Sk ?_
    refine Sr (Mm (Mm ?_))
    obtain ⟨x158, hx158, ho92⟩ := Bs ho92
    refine ZQ (α := Bool) (e := 4) (v := v69) (l := s67.1) hH (i := 3) rfl hx158 underlying54 sizeOf4 rfl rfl rfl ?_
    intro b159 o160 h161 hl162
    obtain ⟨x163, hx163, ho92⟩ := Bs ho92
    refine jI (Dw := Dw) (α := Bool) (e := 4) (v := v69) (l := s67.1) hH (i := 3) rfl hl162 hx163 rfl sizeOf4 rfl hB hA rfl rfl ?_
    intro w164 hH165 ht166
    replace h132 := El.tr h132 ht166; replace hr94 := Tt hr94 ht166; replace hB := Bx hB ht166; replace hA := ht166.new
    obtain ⟨h74, h_a_0⟩ := T2 ht166 h74 h_a_0
    replace hH := hH165
    refine To ?_
    refine zh ?_
    refine ZZ (Dw := Dw) 11 zH (by kernel_rfl) ?_
    simp only [List.take, List.drop]
    refine Qm (Qn (Qv (fun w' hw' => Fc 2 underlying184 rfl sizeOf26 rfl rfl) (Qc (Hc 2 4 hH rfl rfl) isAgg26 (Qm ?_))))
    obtain ⟨x167, hx167, ho92⟩ := Bs ho92
    refine Zd (α := Int) (e := 3) (v := v77) (l := s67.2.2.weights) hH (i := 6) rfl hx167 underlying26 sizeOf3 rfl rfl rfl ?_
    intro b168 o169 h170 hl171
    refine Qi h170 isAgg3 ?_
    have h172 := Jc h132
    refine Qf underlying38 rfl sizeOf3 (Qi h172 isAgg3 (Qv (fun w' hw' => zN rfl rfl) ?_))
    refine Zd (α := Int) (e := 3) (v := v77) (l := s67.2.2.weights) hH (i := 6) rfl hx167 underlying26 sizeOf3 rfl rfl rfl ?_
    intro b173 o174 h175 hl176
    refine QU (fun w177 hk178 => ?_)
    try simp only [List.take, List.drop]
    have ht179 := Kp.tr hk178 hA hB; replace hH := Hp.kp hH hk178; replace h132 := El.tr h132 ht179; replace hr94 := Tt hr94 ht179; replace hB := Bx hB ht179; replace hA := ht179.new
    obtain ⟨h74, h_a_0⟩ := T2 ht179 h74 h_a_0
    obtain ⟨x180, hx180, ho92⟩ := Bs ho92
    refine jI (Dw := Dw) (α := Int) (e := 3) (v := v77) (l := s67.2.2.weights) hH (i := 6) rfl hl176 hx180 rfl sizeOf3 rfl hB hA rfl rfl ?_
    intro w181 hH182 ht183
    replace h132 := El.tr h132 ht183; replace hr94 := Tt hr94 ht183; replace hB := Bx hB ht183; replace hA := ht183.new
    obtain ⟨h74, h_a_0⟩ := T2 ht183 h74 h_a_0
    replace hH := hH182
    refine To ?_
    refine zh ?_
    refine ZZ (Dw := Dw) 15 zH (by kernel_rfl) ?_
    simp only [List.take, List.drop]
    refine Qm (Qn (Qv (fun w' hw' => Fc 3 underlying184 rfl sizeOf26 rfl rfl) (Qc (Hc 3 4 hH rfl rfl) isAgg26 (Qm (Qm (Qn (Qv (fun w' hw' => Fc 3 underlying184 rfl sizeOf26 rfl rfl) (Qc (Hc 3 4 hH rfl rfl) isAgg26 (Qm ?_)))))))))
    obtain ⟨x184, hx184, ho92⟩ := Bs ho92
    refine Zd (α := Int) (e := 3) (v := v79) (l := s67.2.2.latest) hH (i := 7) rfl hx184 underlying26 sizeOf3 rfl rfl rfl ?_
    intro b185 o186 h187 hl188
    refine Qi h187 isAgg3 (Qm (Qv (fun w' hw' => zeh rfl rfl) ?_))
    refine Zd (α := Int) (e := 3) (v := v79) (l := s67.2.2.latest) hH (i := 7) rfl hx184 underlying26 sizeOf3 rfl rfl rfl ?_
    intro b189 o190 h191 hl192
    refine QU (fun w193 hk194 => ?_)
    try simp only [List.take, List.drop]
    have ht195 := Kp.tr hk194 hA hB; replace hH := Hp.kp hH hk194; replace h132 := El.tr h132 ht195; replace hr94 := Tt hr94 ht195; replace hB := Bx hB ht195; replace hA := ht195.new
    obtain ⟨h74, h_a_0⟩ := T2 ht195 h74 h_a_0
    obtain ⟨x196, hx196, ho92⟩ := Bs ho92
    refine jI (Dw := Dw) (α := Int) (e := 3) (v := v79) (l := s67.2.2.latest) hH (i := 7) rfl hl192 hx196 rfl sizeOf3 rfl hB hA rfl rfl ?_
    intro w197 hH198 ht199
    replace h132 := El.tr h132 ht199; replace hr94 := Tt hr94 ht199; replace hB := Bx hB ht199; replace hA := ht199.new
    obtain ⟨h74, h_a_0⟩ := T2 ht199 h74 h_a_0
    replace hH := hH198
    refine To ?_
    refine qX (Dw := Dw) A149 18 [(1, 0), (1, 1), (1, 2), (1, 3), (1, 4), (1, 5), (0, 6), (1, 7), (0, 8), (1, 9), (0, 10), (1, 11), (1, 12), (1, 13), (1, 14), (2, 15), (4, 16), (1, 17)] zH (by kernel_rfl) (fun w200 hk201 => ?_)
    have ht202 := Kp.tr hk201 hA hB; replace hH := Hp.kp hH hk201; replace h132 := El.tr h132 ht202; replace hr94 := Tt hr94 ht202; replace hB := Bx hB ht202; replace hA := ht202.new
    obtain ⟨h74, h_a_0⟩ := T2 ht202 h74 h_a_0
    refine zI rfl (Qm (zB (zI rfl ?_)))
    have h203 := qR h132
    refine Qf underlying38 rfl sizeOf3 (zB (zI rfl (Ql (fun w' hw' => (El.int (El.keep h203 (XA.ex hw')))) isAgg3 (zB (zI rfl (Qm (zB (zI rfl (Qn ?_)))))))))
    refine zB (zI rfl (Qv (fun w' hw' => Fc 0 underlying56 rfl sizeOf22 rfl rfl) (zB (qF rfl (Qc (Hc 0 8 hH rfl rfl) isAgg22 (zB (zI rfl (Qm (zB ?_)))))))))
    refine qF rfl ?_
    obtain ⟨x204, hx204, ho92⟩ := Bs ho92
    refine Zl h_a_0 hx204 underlying22 sizeOf61 rfl rfl rfl ?_
    intro b205 o206 h207
    refine zB (zI rfl ?_)
    have h208 := ZB h207
    refine Qf underlying61 rfl sizeOf3 (zB (qF rfl (Qi h208 isAgg3 (zB (zI rfl ?_)))))
    have h209 := Jc h132
    refine Qf underlying38 rfl sizeOf3 (zB (zI rfl (Ql (fun w' hw' => (El.int (El.keep h209 (XA.ex hw')))) isAgg3 (zB (zI rfl (Qm (zB (zI rfl ?_))))))))
    refine Qv (fun w' hw' => zaz underlying46 zeroValue46 (zgR _ underlying46) rfl (by with_unfolding_all rfl)) (zB ?_)
    refine qw (k := 0) rfl ?_
    refine zX (Dw := Dw) (cells := #[Ii x117.ticket, Ii x204.no, Ii x117.weight, Ii m]) (l := ([(⟨x117.ticket, x204.no, x117.weight, m⟩ : zb)] : List zb)) (len := 1) underlying34 sizeOf46 zeroValue46 rfl (by kernel_rfl) (show (1 * 4 : Nat) ≠ 0 by decide) (show (1 * 4 : Nat) ≤ 2 ^ 24 by decide) hA ⟨[Ii x117.ticket, Ii x204.no, Ii x117.weight, Ii m], _, rfl, ⟨[Ii x117.ticket], _, rfl, rfl, ⟨[Ii x204.no], _, rfl, rfl, ⟨[Ii x117.weight], _, rfl, rfl, rfl⟩⟩⟩, rfl⟩ rfl rfl ?_
    intro v210 w211 hk213 h212
    have ht214 := Kp.tr hk213 hA hB; replace hH := Hp.kp hH hk213; replace h74 := Sl.tr h74 ht214; replace hr94 := Tt hr94 ht214; replace hB := Bx hB ht214; replace hA := ht214.new
    refine V_CH (hk213) ?_
    refine qw (k := 2) rfl ?_
    obtain ⟨x215, hx215, ho92⟩ := Bs ho92
    refine Zv (Dw := Dw) (e := 46) (v := v71) (l := s67.2.1) (ti := t46) (bytes := 32) (lim := 4398046511104) hH (i := 1) rfl h212 hx215 underlying34 jb rfl rfl rfl rfl (by decide) (by decide) (by decide) hB hA rfl rfl rfl ?_
    intro v216 w217 A218 hH219 ht220
    replace h74 := Sl.tr h74 ht220; replace hr94 := Tt hr94 ht220; replace hH := hH219
    refine zaE ?_
    refine zI rfl (Qa (zB ?_))
    refine jC ?_
    show V _ _ _ _ [] _ _
    obtain rfl := Oi ho92
    refine zn (fun a ha221 => ?_)
    replace hH := Hd 10 (Hf 10 (Hf 10 (Hf 10 (Hf 10 (Hf 10 (Hf 10 (Hf 10 (Hf 10 (Hf 10 (Hf 10 hH))))))))))
    exact ⟨(v69, v216, v73, v75, v77, v79, A218), ha221.sb, ⟨h74, hH, hr94⟩⟩
   rintro ⟨v95, v97, v99, v101, v103, v105, A110⟩ w107 ⟨h100, hH111, hk108⟩ a ha109
   replace hr48 := Tr.trans hr48 hk108; replace hA := hk108.new; replace hH := hH111
   refine C_at (n := ⟨120, [], none⟩) (fun _ _ => rfl) ?_ ha109
   refine zo (Vy (zN rfl rfl) (Mm ?_))
   obtain rfl := Oi h84
   refine zn (fun a ha222 => ?_)
   exact ⟨(s93.1, s93.2.1, s93.2.2), hlt87, h85, ⟨(v95, v97, v99, v101, v103, v105, A110), ha222.sub ⟨rfl, rfl, rfl, rfl, rfl, rfl, rfl, rfl, Ws hlt87 hn90, trivial⟩, ⟨h100, hH, hr48⟩⟩⟩
  refine zQ (fun a ha223 => ?_)
  exact ⟨((s67.1, s67.2.1, s67.2.2), v69, v71, v73, v75, v77, v79, A81), ha223.sb, ⟨(h88 (zK hle86 hc91)).symm, h74, hH, hr48⟩⟩
 rintro ⟨s47, v53, v55, v57, v59, v61, v63, A65⟩ w50 ⟨rfl, h58, hH66, hk51⟩ a ha52
 rw [Lp.andThen_fin] at hm
 replace h_waiting := Sl.tr h_waiting hk51; replace hK := Tr.trans hK hk51; replace hB := Nat.le_trans hB hk51.ex.size; replace hA := hk51.new; replace hH := hH66
 refine C_at (n := ⟨120, [], none⟩) (fun _ _ => rfl) ?_ ha52
 refine Sr (As (To ?_))
 refine zh (Sr (Mm (Vy (zA h_waiting rfl underlying25 rfl) (Mm (To ?_)))))
 replace hH : Hp B A65 w50 (o_38 (.slice none 0 0) ([] : (List za)) :: o_46 v55 s47.2.1 :: o_3 v39 x38 :: o_4 v53 s47.1 :: obC b19 [v57, v59, v61, v63] 184 :: o_4 v59 s47.2.2.duty :: o_3 v61 s47.2.2.weights :: o_3 v63 s47.2.2.latest :: obC b_a_ [v_a_0, v_a_1, v_a_2, v_a_3, Ii a_.now, v_a_4, v_a_5, .map (some m_a_0)] 58 :: o_4 v_a_3 a_.assigner.away :: obRM (κ := Int) (α := za) m_a_0 a_.work :: L) := Hp.addNil (α := za) (e := 38) hH
 have hn249 := Sl.le h_waiting
 obtain ⟨o225, ho225, hm⟩ := Bs hm
 refine zu (ι := ((List za) × Value × (Nat → Prop))) (fun ⟨s226, v232, A234⟩ => [(12, v55), (17, v232)]) (fun ⟨s226, v232, A234⟩ => fun w' => o225 = .fin s226 ∧ Hp B A234 w' (o_38 v232 s226 :: o_46 v55 s47.2.1 :: o_3 v39 x38 :: o_4 v53 s47.1 :: obC b19 [v57, v59, v61, v63] 184 :: o_4 v59 s47.2.2.duty :: o_3 v61 s47.2.2.weights :: o_3 v63 s47.2.2.latest :: obC b_a_ [v_a_0, v_a_1, v_a_2, v_a_3, Ii a_.now, v_a_4, v_a_5, .map (some m_a_0)] 58 :: o_4 v_a_3 a_.assigner.away :: obRM (κ := Int) (α := za) m_a_0 a_.work :: L) ∧ Tr Dw B A65 w50 A234 w') ?_ ?_
 ·refine zl ?_
  refine zS ho225 (fun k228 s236 a w' => ∃ i : (Value × (Nat → Prop)), Has ⟨120, [], none⟩ a ([(11, v53), (12, v55), (17, i.1), (97, v_waiting), (98, Ii (waiting.length : Int)), (99, Ii (k228 : Int))]) ∧ Hp B i.2 w' (o_38 i.1 s236 :: o_46 v55 s47.2.1 :: o_3 v39 x38 :: o_4 v53 s47.1 :: obC b19 [v57, v59, v61, v63] 184 :: o_4 v59 s47.2.2.duty :: o_3 v61 s47.2.2.weights :: o_3 v63 s47.2.2.latest :: obC b_a_ [v_a_0, v_a_1, v_a_2, v_a_3, Ii a_.now, v_a_4, v_a_5, .map (some m_a_0)] 58 :: o_4 v_a_3 a_.assigner.away :: obRM (κ := Int) (α := za) m_a_0 a_.work :: L) ∧ Tr Dw B A65 w50 i.2 w') (fun a ha => ⟨(.slice none 0 0, A65), ha.sb, ⟨hH, Tr.refl (Dw := Dw) hA⟩⟩) ?_
  rintro K k228 s236 a w237 ⟨⟨v238, A240⟩, ha335, hH241, hr227⟩ hle245 K248 h247
  refine C_of ?_ ha335
  replace h_waiting := Sl.tr h_waiting hr227; replace hB := Bx hB hr227; replace hA := hr227.new; replace hH := hH241
  refine Sr (Vy (zR rfl rfl) (To ?_))
  refine zh ?_
  refine Cc (fun hc250 => ?_) fun hc250 => ?_
  ·have hlt246 := zL hc250
   obtain ⟨x242, h243, h244⟩ := K248 hlt246
   refine Sk ?_
   refine zh ?_
   obtain ⟨s252, ho251, h243⟩ := Bs h243
   refine zu (ι := (Value × (Nat → Prop))) (fun ⟨v254, A259⟩ => [(11, v53), (12, v55), (17, v254), (97, v_waiting), (98, Ii (waiting.length : Int)), (99, Ii (k228 : Int))]) (fun ⟨v254, A259⟩ => fun w' => Hp B A259 w' (o_38 v254 s252 :: o_46 v55 s47.2.1 :: o_3 v39 x38 :: o_4 v53 s47.1 :: obC b19 [v57, v59, v61, v63] 184 :: o_4 v59 s47.2.2.duty :: o_3 v61 s47.2.2.weights :: o_3 v63 s47.2.2.latest :: obC b_a_ [v_a_0, v_a_1, v_a_2, v_a_3, Ii a_.now, v_a_4, v_a_5, .map (some m_a_0)] 58 :: o_4 v_a_3 a_.assigner.away :: obRM (κ := Int) (α := za) m_a_0 a_.work :: L) ∧ Tr Dw B A240 w237 A259 w') ?_ ?_
   ·have hr253 : Tr Dw B A240 w237 A240 w237 := Tr.refl (Dw := Dw) hA
    refine zl (Sr (Mm ?_))
    obtain ⟨x261, hx261, ho251⟩ := Bs ho251
    refine zy h_waiting hx261 underlying25 sizeOf38 rfl rfl rfl ?_
    intro b262 o263 h264
    obtain ⟨v265, h267, h266⟩ := Zt h264
    refine Vy (zx h267 isAgg38 sizeOf38 rfl) ?_
    refine Jj (Dw := Dw) (B := B) hH zeroValue38 hB hA rfl ?_
    intro b268 w269 A270 hH271 ht272
    replace h266 := Sl.tr h266 ht272; replace hr253 := Tt hr253 ht272; replace hB := Bx hB ht272; replace hA := ht272.new; replace hH := hH271
    refine As ?_
    have h278 := Sl.oc h266
    refine ZG (Dw := Dw) (off := 0) (ds := [Ii x261.ticket, Ii x261.weight, Ii x261.urgency, Ii x261.since, Ii x261.former, v265]) hH (i := 0) rfl sizeOf38 rfl (Nat.le_of_ble_eq_true rfl) (by exact (List.forall_mem_cons.2 ⟨rfl, (List.forall_mem_cons.2 ⟨rfl, (List.forall_mem_cons.2 ⟨rfl, (List.forall_mem_cons.2 ⟨rfl, (List.forall_mem_cons.2 ⟨rfl, (List.forall_mem_cons.2 ⟨h278, (fun _ h => nomatch h)⟩)⟩)⟩)⟩)⟩)⟩)) rfl hB hA rfl rfl ?_
    intro w273 hH274 ht275
    replace h266 := Sl.tr h266 ht275; replace hr253 := Tt hr253 ht275; replace hB := Bx hB ht275; replace hA := ht275.new; replace hH := hH274
    refine To ?_
    refine Sr (Mm (Mm ?_))
    obtain ⟨x279, hx279, ho251⟩ := Bs ho251
    refine ZQ (α := Bool) (e := 4) (v := v53) (l := s47.1) hH (i := 4) rfl hx279 underlying54 sizeOf4 rfl rfl rfl ?_
    intro b280 o281 h282 hl283
    refine Ld (El.bool h282) isAgg4 (Vy (Zs rfl) (To ?_))
    obtain ⟨s285, ho284, ho251⟩ := Bs ho251
    refine zu (ι := (Value × Value × (Nat → Prop))) (fun ⟨v287, v289, A294⟩ => [(11, v53), (12, v55), (17, v287), (97, v_waiting), (98, Ii (waiting.length : Int)), (99, Ii (k228 : Int))]) (fun ⟨v287, v289, A294⟩ => fun w' => Sl A294 w' v289 s285.2.needs ∧ Hp B A294 w' (obC b268 [Ii s285.2.ticket, Ii s285.2.weight, Ii s285.2.urgency, Ii s285.2.since, Ii s285.2.former, v289] 38 :: o_38 v287 s285.1 :: o_46 v55 s47.2.1 :: o_3 v39 x38 :: o_4 v53 s47.1 :: obC b19 [v57, v59, v61, v63] 184 :: o_4 v59 s47.2.2.duty :: o_3 v61 s47.2.2.weights :: o_3 v63 s47.2.2.latest :: obC b_a_ [v_a_0, v_a_1, v_a_2, v_a_3, Ii a_.now, v_a_4, v_a_5, .map (some m_a_0)] 58 :: o_4 v_a_3 a_.assigner.away :: obRM (κ := Int) (α := za) m_a_0 a_.work :: L) ∧ Tr Dw B A270 w273 A294 w') ?_ ?_
    ·have hr286 : Tr Dw B A270 w273 A270 w273 := Tr.refl (Dw := Dw) hA
     refine Cc (fun hc296 => ?_) fun hc296 => ?_
     ·rw [if_pos hc296] at ho284
      refine Sr (Vy (Fc 5 underlying38 rfl sizeOf36 rfl rfl) (Ld (Hc 5 0 hH rfl rfl) isAgg36 ?_))
      obtain ⟨x297, hx297, ho284⟩ := Bs ho284
      refine Vc call20 (Zx (Dw := Dw) w273 hA x261.needs v265 h266 hx297) ?_
      rintro v298 w300 ⟨_, rfl, h299, hk301⟩
      obtain ⟨A302, ht303, hH304⟩ := Hp.addOwnd (Dw := Dw) hH hB hA hk301 h299
      replace hr286 := Tt hr286 ht303; replace hB := Bx hB ht303; replace hA := ht303.new; replace hH := hH304
      refine Vy (Fc 5 underlying38 rfl sizeOf36 rfl rfl) ?_
      obtain ⟨A305, ht306, h307, hH308⟩ := Hp.freeze (Dw := Dw) (α := zi) (v := v298) (l := x297) hH (i := 0) rfl hA
      replace hr286 := Tt hr286 ht306; replace hB := Bx hB ht306; replace hA := ht306.new; replace hH := hH308
      have h315 := Sl.oc h307
      refine Sc Dw 5 [Ii x261.ticket, Ii x261.weight, Ii x261.urgency, Ii x261.since, Ii x261.former, v298] 0 hH h315 sizeOf36 hB hA ?_
      intro w310 hH311 ht312
      replace h307 := Sl.tr h307 ht312; replace hr286 := Tt hr286 ht312; replace hB := Bx hB ht312; replace hA := ht312.new; replace hH := hH311
      refine To ?_
      refine zo (Mm (Vy (zx (Hp.part (off := 0) (n := 6) (ds := [Ii x261.ticket, Ii x261.weight, Ii x261.urgency, Ii x261.since, Ii x261.former, v298]) hH (i := 0) rfl rfl) isAgg38 sizeOf38 rfl) ?_))
      refine zX (Dw := Dw) (cells := #[Ii x261.ticket, Ii x261.weight, Ii x261.urgency, Ii x261.since, Ii x261.former, v298]) (l := ([(⟨x261.ticket, x261.weight, x261.urgency, x261.since, x261.former, x297⟩ : za)] : List za)) (len := 1) underlying25 sizeOf38 zeroValue38 rfl (by obtain ⟨a320, c321, e322, _⟩ := Sl.form h307; subst e322; kernel_rfl) (show (1 * 6 : Nat) ≠ 0 by decide) (show (1 * 6 : Nat) ≤ 2 ^ 24 by decide) hA ⟨[Ii x261.ticket, Ii x261.weight, Ii x261.urgency, Ii x261.since, Ii x261.former, v298], _, rfl, ⟨[Ii x261.ticket], _, rfl, rfl, ⟨[Ii x261.weight], _, rfl, rfl, ⟨[Ii x261.urgency], _, rfl, rfl, ⟨[Ii x261.since], _, rfl, rfl, ⟨[Ii x261.former], _, rfl, rfl, ⟨_, rfl, h307⟩⟩⟩⟩⟩⟩, rfl⟩ rfl rfl ?_
      intro v316 w317 hk319 h318
      have ht323 := Kp.tr hk319 hA hB; replace hH := Hp.kp hH hk319; replace h307 := Sl.tr h307 ht323; replace hr286 := Tt hr286 ht323; replace hB := Bx hB ht323; replace hA := ht323.new
      obtain ⟨x324, hx324, ho284⟩ := Bs ho284
      refine Zv (Dw := Dw) (e := 38) (v := v238) (l := s236) (ti := t38) (bytes := 64) (lim := 2199023255552) hH (i := 1) rfl h318 hx324 underlying25 zap rfl rfl rfl rfl (by decide) (by decide) (by decide) hB hA rfl rfl rfl ?_
      intro v325 w326 A327 hH328 ht329
      replace h307 := Sl.tr h307 ht329; replace hr286 := Tt hr286 ht329; replace hH := hH328
      refine As ?_
      obtain rfl := Oi ho284
      refine zn (fun a ha330 => ?_)
      exact ⟨(v325, v298, A327), ha330.sb, ⟨h307, hH, hr286⟩⟩
     rw [if_neg (nt hc296)] at ho284
     obtain rfl := Oi ho284
     refine qL (fun a ha331 => ?_)
     exact ⟨(v238, v265, A270), ha331.sb, ⟨h266, hH, hr286⟩⟩
    rintro ⟨v287, v289, A294⟩ w291 ⟨h290, hH295, hk292⟩ a ha293
    replace hr253 := Tr.trans hr253 hk292; replace hA := hk292.new; replace hH := hH295
    obtain rfl := Oi ho251
    replace hH := Hd 11 (Hf 11 (Hf 11 (Hf 11 (Hf 11 (Hf 11 (Hf 11 (Hf 11 (Hf 11 (Hf 11 (Hf 11 (Hf 11 hH)))))))))))
    exact ⟨(v287, A294), ha293.sb, ⟨hH, hr253⟩⟩
   rintro ⟨v254, A259⟩ w256 ⟨hH260, hk257⟩ a ha258
   replace hr227 := Tr.trans hr227 hk257; replace hA := hk257.new; replace hH := hH260
   refine C_at (n := ⟨120, [], none⟩) (fun _ _ => rfl) ?_ ha258
   refine zo (Vy (zN rfl rfl) (Mm ?_))
   obtain rfl := Oi h243
   refine zn (fun a ha333 => ?_)
   exact ⟨s252, hlt246, h244, ⟨(v254, A259), ha333.sub ⟨rfl, rfl, rfl, rfl, rfl, Ws hlt246 hn249, trivial⟩, ⟨hH, hr227⟩⟩⟩
  refine zQ (fun a ha334 => ?_)
  exact ⟨(s236, v238, A240), ha334.sb, ⟨(h247 (zK hle245 hc250)).symm, hH, hr227⟩⟩
 rintro ⟨s226, v232, A234⟩ w229 ⟨rfl, hH235, hk230⟩ a ha231
 rw [Lp.andThen_fin] at hm
 replace hK := Tr.trans hK hk230; replace hA := hk230.new; replace hH := hH235
 refine C_at (n := ⟨120, [], none⟩) (fun _ _ => rfl) ?_ ha231
 refine Sr (Mm (Mm (As (As (To ?_)))))
 obtain rfl := Oi hm
 replace hH := Hd 5 (Hd 5 (Hd 5 (Hd 5 (Hd 5 (Hd 5 (Hf 4 (Hf 3 (Hf 10 (Hf 10 (Hf 10 hH))))))))))
 refine Rt (Res.two results86 rfl rfl) ?_
 exact ⟨v55, v232, A234, rfl, hH, hK⟩
theorem zag (w : World) {A : Nat → Prop} (hA : ∀ b, w.heap.size ≤ b → A b) (n : Int) {r : List zb} (hm : ZN n = some r) : Ret prog 116 #[.slice none 0 0, Ii n] w fun v w' => ∃ s0, v = s0 ∧ Ownd (α := zb) 46 w w' s0 r ∧ Kp Dw w w' := by
 unfold ZN at hm
 split at hm
 case isFalse => cases hm
 rename_i hc
 obtain rfl := Oi hm
 obtain ⟨k, rfl⟩ : ∃ k : Nat, n = (k : Int) := ⟨n.toNat, by omega⟩
 obtain ⟨_, hk0⟩ := hc
 have hk : k ≤ 4398046511104 := by omega
 have hmax : k ≤ maxLen := Nat.le_trans hk (by decide)
 have hbytes : k * 32 ≤ 140737488355328 := Nat.le_trans (Nat.mul_le_mul_right _ hk) (by decide)
 have e0 : w64 (((0 : Nat) : Int) - ((0 : Nat) : Int)) = 0 := rfl
 have e1 : w64 ((k : Int) - 0) = (k : Int) := by rw [Int.sub_zero, Zi (by omega) (by omega)]
 refine enter func116 rfl ntmps116 rfl ?_
 refine Sr (As (To ?_))
 refine zh (Sr (Mm (Vy (zR rfl rfl) (To ?_))))
 refine Cc (fun hc => ?_) fun _ => ?_
 ·have : decide ((k : Int) < 0) = true := hc
  rw [decide_eq_true_eq] at this
  omega
 refine Sk ?_
 refine zh (Sr (Mm (Mm (Vy (zla (a := none) (len := 0) (cap := 0) rfl underlying34 rfl) (Mm (Vy (zaJ (a := none) (len := 0) (cap := 0) rfl underlying34 rfl) (Vy (Qw rfl rfl) ?_)))))))
 rw [e0]
 refine Vy (Qw rfl rfl) ?_
 rw [e1]
 refine As (To ?_)
 refine Sr (Mm (Vy (qz rfl rfl) (To ?_)))
 refine Cc (fun hc => ?_) fun hc => ?_
 ·have hk1 : 0 < k := by
   have : decide ((0 : Int) < (k : Int)) = true := hc
   rw [decide_eq_true_eq] at this
   omega
  refine zo (Mm (Mm (Vy (zla (a := none) (len := 0) (cap := 0) rfl underlying34 rfl) (Vy (zlu (sz := 4) (k := .i64) underlying34 sizeOf46 rfl rfl) (Mm ?_)))))
  refine ziX (Dw := Dw) (B := w.heap.size) (L := []) (k := k) (size := 4) (bytes := 32) (ti := t46) (A := A) Hp.nil underlying34 underlying3 jb rfl rfl rfl rfl (by decide) hk1 hmax hbytes (Nat.le_refl _) hA rfl rfl rfl ?_
  intro g2 cap2 row w1 A1 hH1 ht1 hc1 hc2 hrow
  refine Mm (Vy (zaJ (a := none) (len := 0) (cap := 0) rfl underlying34 rfl) ?_)
  refine Vy (zhQ (sz := 4) (g := g2) (len := k) (cap := cap2) (hi := 0) (k := .i64) (by omega) underlying34 sizeOf46 rfl rfl) (As (To ?_))
  have hH2 := Hp.closeS (α := zb) (e := 46) (l := ([] : List zb)) (cap := cap2) hH1 (i := 0) rfl ht1.new (by simp) hc2 hrow (by rw [List.length_nil, Nat.zero_mul]; exact rfl)
  refine Sr (Mm (As (To ?_)))
  refine Rt (Res.one results116 rfl) ?_
  exact ⟨_, rfl, (Hp.ownd hH2 (i := 0) rfl), ht1.kp⟩
 refine Sk ?_
 refine Sr (Mm (As (To ?_)))
 refine Rt (Res.one results116 rfl) ?_
 exact ⟨_, rfl, ⟨[], .inl ⟨rfl, rfl, rfl⟩, fun b hb => by cases hb⟩, Kp.refl (Dw := Dw) _⟩
theorem JP (w : World) {A : Nat → Prop} (hA : ∀ b, w.heap.size ≤ b → A b) (slices : (List (List zb))) (v_slices : Value) (h_slices : Sl A w v_slices slices) {r : (List zb)} (hm : ZE slices = some r) : Ret prog 87 #[v_slices] w fun v w' => ∃ s0, v = s0 ∧ Ownd 46 w w' s0 r ∧ Kp Dw w w' := by
 unfold ZE at hm
 refine enter func87 rfl ntmps87 rfl ?_
 have hA0 := hA
 obtain ⟨hB, hK, hH⟩ := St (Dw := Dw) hA
 refine Sr (As (To ?_))
 refine Sr (As (To ?_))
 refine zh (Sr (Mm (Vy (zA h_slices rfl underlying185 rfl) (Mm (To ?_)))))
 have hn23 := Sl.le h_slices
 obtain ⟨o3, ho3, hm⟩ := Bs hm
 refine zu (ι := (Int × (Nat → Prop))) (fun ⟨s4, A10⟩ => [(0, v_slices), (3, Ii s4)]) (fun ⟨s4, A10⟩ => fun w' => o3 = .fin s4 ∧ Hp w.heap.size A10 w' ([]) ∧ Tr Dw w.heap.size A w A10 w') ?_ ?_
 ·refine zl ?_
  refine zS ho3 (fun k6 s12 a w' => ∃ i : (Nat → Prop), Has ⟨36, [], none⟩ a ([(0, v_slices), (3, Ii s12), (9, v_slices), (10, Ii (slices.length : Int)), (11, Ii (k6 : Int))]) ∧ Hp w.heap.size i w' ([]) ∧ Tr Dw w.heap.size A w i w') (fun a ha => ⟨A, ha.sb, ⟨hH, Tr.refl (Dw := Dw) hA⟩⟩) ?_
  rintro K k6 s12 a w13 ⟨A14, ha35, hH15, hr5⟩ hle19 K22 h21
  refine C_of ?_ ha35
  replace h_slices := Sl.tr h_slices hr5; replace hA := hr5.new; replace hH := hH15
  refine Sr (Vy (zR rfl rfl) (To ?_))
  refine zh ?_
  refine Cc (fun hc24 => ?_) fun hc24 => ?_
  ·have hlt20 := zL hc24
   obtain ⟨x16, h17, h18⟩ := K22 hlt20
   refine Sk ?_
   refine zh (zl (Sr ?_))
   obtain ⟨x25, hx25, h17⟩ := Bs h17
   refine zy h_slices hx25 underlying185 sizeOf34 rfl rfl rfl ?_
   intro b26 o27 h28
   obtain ⟨v29, h30, h31⟩ := El.list h28
   refine Ld h30 isAgg34 (As (To ?_))
   refine Sr (Mm (Mm (Vy (zA h31 rfl underlying34 rfl) (Vy (zN rfl rfl) (As (To ?_))))))
   refine Sr (Mm (Vy (zR rfl rfl) (To ?_)))
   refine Cc (fun hc32 => ?_) fun hc32 => ?_
   ·rw [if_pos hc32] at h17
    cases h17
   rw [if_neg (nt hc32)] at h17
   refine Sk ?_
   refine zo (Vy (zN rfl rfl) (Mm ?_))
   obtain rfl := Oi h17
   refine zn (fun a ha33 => ?_)
   exact ⟨w64 (s12 + (x25.length : Int)), hlt20, h18, ⟨A14, ha33.sub ⟨rfl, rfl, rfl, rfl, Ws hlt20 hn23, trivial⟩, ⟨hH, hr5⟩⟩⟩
  refine zQ (fun a ha34 => ?_)
  exact ⟨(s12, A14), ha34.sb, ⟨(h21 (zK hle19 hc24)).symm, hH, hr5⟩⟩
 rintro ⟨s4, A10⟩ w7 ⟨rfl, hH11, hk8⟩ a ha9
 rw [Lp.andThen_fin] at hm
 replace h_slices := Sl.tr h_slices hk8; replace hK := Tr.trans hK hk8; replace hB := Nat.le_trans hB hk8.ex.size; replace hA := hk8.new; replace hH := hH11
 refine C_at (n := ⟨36, [], none⟩) (fun _ _ => rfl) ?_ ha9
 refine Sr (Mm ?_)
 obtain ⟨x36, hx36, hm⟩ := Bs hm
 refine Vc call116 (zag (Dw := Dw) w7 hA  s4 hx36) ?_
 rintro v37 w39 ⟨_, rfl, h38, hk40⟩
 obtain ⟨A41, ht42, hH43⟩ := Hp.addOwnd (Dw := Dw) hH hB hA hk40 h38
 obtain ⟨h_slices, hK, hB, hA⟩ := U1 ht42 hK hB h_slices
 replace hH := hH43
 refine As (To ?_)
 refine zh (Sr (Mm (Vy (zA h_slices rfl underlying185 rfl) (Mm (To ?_)))))
 have hn68 := Sl.le h_slices
 obtain ⟨o44, ho44, hm⟩ := Bs hm
 refine zu (ι := ((List zb) × Value × (Nat → Prop))) (fun ⟨s45, v51, A53⟩ => [(6, v51)]) (fun ⟨s45, v51, A53⟩ => fun w' => o44 = .fin s45 ∧ Hp w.heap.size A53 w' (o_46 v51 s45 :: []) ∧ Tr Dw w.heap.size A41 w39 A53 w') ?_ ?_
 ·refine zl ?_
  refine zS ho44 (fun k47 s55 a w' => ∃ i : (Value × (Nat → Prop)), Has ⟨36, [], none⟩ a ([(6, i.1), (25, v_slices), (26, Ii (slices.length : Int)), (27, Ii (k47 : Int))]) ∧ Hp w.heap.size i.2 w' (o_46 i.1 s55 :: []) ∧ Tr Dw w.heap.size A41 w39 i.2 w') (fun a ha => ⟨(v37, A41), ha.sb, ⟨hH, Tr.refl (Dw := Dw) hA⟩⟩) ?_
  rintro K k47 s55 a w56 ⟨⟨v57, A59⟩, ha85, hH60, hr46⟩ hle64 K67 h66
  refine C_of ?_ ha85
  replace h_slices := Sl.tr h_slices hr46; replace hB := Bx hB hr46; replace hA := hr46.new; replace hH := hH60
  refine Sr (Vy (zR rfl rfl) (To ?_))
  refine zh ?_
  refine Cc (fun hc69 => ?_) fun hc69 => ?_
  ·have hlt65 := zL hc69
   obtain ⟨x61, h62, h63⟩ := K67 hlt65
   refine Sk ?_
   refine zh (zl (Sr ?_))
   obtain ⟨x70, hx70, h62⟩ := Bs h62
   refine zy h_slices hx70 underlying185 sizeOf34 rfl rfl rfl ?_
   intro b71 o72 h73
   obtain ⟨v74, h75, h76⟩ := El.list h73
   refine Ld h75 isAgg34 (As (To ?_))
   refine zo (Mm (Mm ?_))
   obtain ⟨x77, hx77, h62⟩ := Bs h62
   refine Zv (Dw := Dw) (e := 46) (v := v57) (l := s55) (ti := t46) (bytes := 32) (lim := 4398046511104) hH (i := 0) rfl h76 hx77 underlying34 jb rfl rfl rfl rfl (by decide) (by decide) (by decide) hB hA rfl rfl rfl ?_
   intro v78 w79 A80 hH81 ht82
   replace hr46 := Tt hr46 ht82; replace hH := hH81
   refine As (To ?_)
   refine zo (Vy (zN rfl rfl) (Mm ?_))
   obtain rfl := Oi h62
   refine zn (fun a ha83 => ?_)
   exact ⟨x77, hlt65, h63, ⟨(v78, A80), ha83.sub ⟨rfl, rfl, rfl, Ws hlt65 hn68, trivial⟩, ⟨hH, hr46⟩⟩⟩
  refine zQ (fun a ha84 => ?_)
  exact ⟨(s55, v57, A59), ha84.sb, ⟨(h66 (zK hle64 hc69)).symm, hH, hr46⟩⟩
 rintro ⟨s45, v51, A53⟩ w48 ⟨rfl, hH54, hk49⟩ a ha50
 rw [Lp.andThen_fin] at hm
 replace hK := Tr.trans hK hk49; replace hA := hk49.new; replace hH := hH54
 refine C_at (n := ⟨36, [], none⟩) (fun _ _ => rfl) ?_ ha50
 refine Sr (Mm (As (To ?_)))
 obtain rfl := Oi hm
 refine Rt (Res.one results87 rfl) ?_
 exact ⟨v51, rfl, (Hp.ownd hH (i := 0) rfl), hK.kp⟩
end Go.Proofs.YtiblagcmjobknaaGreatDoor.W
