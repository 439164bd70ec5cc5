import Derived.Test.YtiblagcmjobknaaGreatDoorTopTakenW3
namespace Go.Proofs.YtiblagcmjobknaaGreatDoor.W
open Go Go.RowKit Go.Pu Go.Gw Go.Proofs Go.Proofs.YtiblagcmjobknaaGreatDoor.M
set_option linter.unusedVariables false
set_option linter.unusedSimpArgs false
variable {Dw : Prop}
set_option maxHeartbeats 4000000
set_option maxRecDepth 4000
open Tryz
theorem zft (w : World) {A : Nat → Prop} (hA : ∀ b, w.heap.size ≤ b → A b) (w_ : za) (v_w_ : Value) (h_w_ : Sl A w v_w_ w_.needs) (steps : (List zk)) (v_steps : Value) (h_steps : Sl A w v_steps steps) (m : Int) {r : ((List zi) × Int)} (hm : JL w_ steps m = some r) : Ret prog 40 #[.agg #[Ii w_.ticket, Ii w_.weight, Ii w_.urgency, Ii w_.since, Ii w_.former, v_w_], v_steps, Ii m] w fun v w' => ∃ s0, v = .tuple #[s0, Ii r.2] ∧ Ownd 64 w w' s0 r.1 ∧ Kp Dw w w' := by
 unfold JL at hm
 refine enter func40 rfl ntmps40 rfl ?_
 have hA0 := hA
 obtain ⟨hB, hK, hH⟩ := St (Dw := Dw) hA
 refine Sr ?_
 refine Zy rfl rfl ?_
 intro b5 w6 h7
 have hk9 := h7.kp (Dw := Dw)
 have h8 : El (α := za) A w6 b5 0 w_ := h7.el hA ⟨[Ii w_.ticket], _, rfl, rfl, ⟨[Ii w_.weight], _, rfl, rfl, ⟨[Ii w_.urgency], _, rfl, rfl, ⟨[Ii w_.since], _, rfl, rfl, ⟨[Ii w_.former], _, rfl, rfl, ⟨_, rfl, h_w_⟩⟩⟩⟩⟩⟩
 have ht10 := Kp.tr hk9 hA hB; replace hH := Hp.kp hH hk9
 obtain ⟨h_steps, hK, hB, hA⟩ := U1 ht10 hK hB h_steps
 refine As (As (To ?_))
 refine zh (Sr ?_)
 obtain ⟨v11, h13, h12⟩ := Zt h8
 refine Vy (zx h13 isAgg38 sizeOf38 rfl) ?_
 refine zX (Dw := Dw) (cells := #[Ii w_.ticket, Ii w_.weight, Ii w_.urgency, Ii w_.since, Ii w_.former, v11]) (l := ([w_] : List za)) (len := 1) underlying25 sizeOf38 zeroValue38 rfl (by obtain ⟨a18, c19, e20, _⟩ := Sl.form h12; subst e20; kernel_rfl) (show (1 * 6 : Nat) ≠ 0 by decide) (show (1 * 6 : Nat) ≤ 2 ^ 24 by decide) hA ⟨[Ii w_.ticket, Ii w_.weight, Ii w_.urgency, Ii w_.since, Ii w_.former, v11], _, rfl, ⟨[Ii w_.ticket], _, rfl, rfl, ⟨[Ii w_.weight], _, rfl, rfl, ⟨[Ii w_.urgency], _, rfl, rfl, ⟨[Ii w_.since], _, rfl, rfl, ⟨[Ii w_.former], _, rfl, rfl, ⟨_, rfl, h12⟩⟩⟩⟩⟩⟩, rfl⟩ rfl rfl ?_
 intro v14 w15 hk17 h16
 have ht21 := Kp.tr hk17 hA hB; replace hH := Hp.kp hH hk17; replace h8 := El.tr h8 ht21
 obtain ⟨h_steps, hK, hB, hA⟩ := U1 ht21 hK hB h_steps
 obtain ⟨x22, hx22, hm⟩ := Bs hm
 refine Vc call29 (zbH (Dw := Dw) w15 hA ([w_] : List za) v14 h16 hx22) ?_
 rintro _ w23 ⟨rfl, hk24⟩
 have ht25 := Kp.tr hk24 hA hB; replace hH := Hp.kp hH hk24; replace h8 := El.tr h8 ht25
 obtain ⟨h_steps, hK, hB, hA⟩ := U1 ht25 hK hB h_steps
 refine Mm ?_
 obtain ⟨x26, hx26, hm⟩ := Bs hm
 refine Vc call18 (zbr (Dw := Dw) w23 hA steps v_steps h_steps hx26) ?_
 rintro _ w27 ⟨rfl, hk28⟩
 have ht29 := Kp.tr hk28 hA hB; replace hH := Hp.kp hH hk28; replace h8 := El.tr h8 ht29
 obtain ⟨h_steps, hK, hB, hA⟩ := U1 ht29 hK hB h_steps
 refine Mm ?_
 refine Vc call69 (zcQ w27 m) ?_
 rintro _ _ ⟨rfl, rfl⟩
 refine zX (Dw := Dw) (cells := #[Ii x22, Ii x26, Ii (ZF m)]) (l := ([x22, x26, (ZF m)] : List Int)) (len := 3) underlying150 sizeOf29 zeroValue29 rfl (by generalize ((ZF m) : Int) = z34; kernel_rfl) (show (3 * 1 : Nat) ≠ 0 by decide) (show (3 * 1 : Nat) ≤ 2 ^ 24 by decide) hA ⟨[Ii x22], _, rfl, rfl, ⟨[Ii x26], _, rfl, rfl, ⟨[Ii (ZF m)], _, rfl, rfl, rfl⟩⟩⟩ rfl rfl ?_
 intro v30 w31 hk33 h32
 have ht35 := Kp.tr hk33 hA hB; replace hH := Hp.kp hH hk33; replace h8 := El.tr h8 ht35
 obtain ⟨h_steps, hK, hB, hA⟩ := U1 ht35 hK hB h_steps
 obtain ⟨x36, hx36, hm⟩ := Bs hm
 refine Vc call68 (Qs w31 ([x22, x26, (ZF m)] : List Int) v30 h32 hx36) ?_
 rintro _ _ ⟨rfl, rfl⟩
 refine As (To ?_)
 refine Sr (Mm (Vy (ZW rfl rfl) (To ?_)))
 refine Cc (fun hc37 => ?_) fun hc37 => ?_
 ·rw [if_pos hc37] at hm
  refine Sr (Mm (As (As (To ?_))))
  obtain rfl := Oi hm
  replace hH : Hp w.heap.size A w31 (obS (α := zi) 64 (.slice none 0 0) ([] : (List zi)) :: []) := Hp.addNil (α := zi) (e := 64) hH
  refine Rt (Res.two results40 rfl rfl) ?_
  exact ⟨.slice none 0 0, rfl, (Hp.ownd hH (i := 0) rfl), hK.kp⟩
 rw [if_neg (nt hc37)] at hm
 refine Sk ?_
 refine Sr ?_
 obtain ⟨v38, h40, h39⟩ := Zt h8
 refine Vy (zx h40 isAgg38 sizeOf38 rfl) (Mm (Mm ?_))
 obtain ⟨x41, hx41, hm⟩ := Bs hm
 refine Vc call70 (zcs (Dw := Dw) w31 hA w_ v38 h39 steps v_steps h_steps m hx41) ?_
 rintro v42 w44 ⟨_, rfl, h43, hk45⟩
 obtain ⟨A46, ht47, hH48⟩ := Hp.addOwnd (Dw := Dw) hH hB hA hk45 h43
 replace hK := Tt hK ht47; replace hH := hH48
 refine As (As (To ?_))
 obtain rfl := Oi hm
 refine Rt (Res.two results40 rfl rfl) ?_
 exact ⟨v42, rfl, (Hp.ownd hH (i := 0) rfl), hK.kp⟩
theorem zhu (w : World) {A : Nat → Prop} (hA : ∀ b, w.heap.size ≤ b → A b) (people : (List zd)) (v_people : Value) (h_people : Sl A w v_people people) (needs : (List zi)) (v_needs : Value) (h_needs : Sl A w v_needs needs) {r : ((List Int) × Int)} (hm : zaI people needs = some r) : Ret prog 41 #[v_people, v_needs] w fun v w' => ∃ s0, v = .tuple #[s0, Ii r.2] ∧ Ownd 3 w w' s0 r.1 ∧ Kp Dw w w' := by
 unfold zaI at hm
 refine enter func41 rfl ntmps41 rfl ?_
 have hA0 := hA
 obtain ⟨hB, hK, hH⟩ := St (Dw := Dw) hA
 refine Sr (As (As (To ?_)))
 refine zh (Sr (Mm ?_))
 obtain ⟨x5, hx5, hm⟩ := Bs hm
 refine Vc call50 (JV (Dw := Dw) w hA people v_people h_people hx5) ?_
 rintro _ w6 ⟨rfl, hk7⟩
 have ht8 := Kp.tr hk7 hA hB; replace hH := Hp.kp hH hk7
 obtain ⟨h_people, h_needs, hK, hB, hA⟩ := U2 ht8 hK hB h_people h_needs
 refine Mm ?_
 obtain ⟨x9, hx9, hm⟩ := Bs hm
 refine Vc call60 (JS (Dw := Dw) w6 hA needs v_needs h_needs hx9) ?_
 rintro _ w10 ⟨rfl, hk11⟩
 have ht12 := Kp.tr hk11 hA hB; replace hH := Hp.kp hH hk11
 obtain ⟨h_people, h_needs, hK, hB, hA⟩ := U2 ht12 hK hB h_people h_needs
 refine zX (Dw := Dw) (l := ([x5, x9] : List Int)) (len := 2) underlying150 sizeOf29 zeroValue29 rfl (by with_unfolding_all rfl) (show (2 * 1 : Nat) ≠ 0 by decide) (show (2 * 1 : Nat) ≤ 2 ^ 24 by decide) hA ⟨[Ii x5], _, rfl, rfl, ⟨[Ii x9], _, rfl, rfl, rfl⟩⟩ rfl rfl ?_
 intro v13 w14 hk16 h15
 have ht17 := Kp.tr hk16 hA hB; replace hH := Hp.kp hH hk16
 obtain ⟨h_people, h_needs, hK, hB, hA⟩ := U2 ht17 hK hB h_people h_needs
 obtain ⟨x18, hx18, hm⟩ := Bs hm
 refine Vc call68 (Qs w14 ([x5, x9] : List Int) v13 h15 hx18) ?_
 rintro _ _ ⟨rfl, rfl⟩
 refine As (To ?_)
 refine Sr (Mm (Vy (ZW rfl rfl) (To ?_)))
 refine Cc (fun hc19 => ?_) fun hc19 => ?_
 ·rw [if_pos hc19] at hm
  refine Sr (Mm (As (As (To ?_))))
  obtain rfl := Oi hm
  replace hH : Hp w.heap.size A w14 (o_3 (.slice none 0 0) ([] : (List Int)) :: []) := Hp.addNil (α := Int) (e := 3) hH
  refine Rt (Res.two results41 rfl rfl) ?_
  exact ⟨.slice none 0 0, rfl, (Hp.ownd hH (i := 0) rfl), hK.kp⟩
 rw [if_neg (nt hc19)] at hm
 refine Sk ?_
 refine Sr (As (To ?_))
 refine zh (Sr (Mm (Vy (zA h_people rfl underlying22 rfl) (Mm (To ?_)))))
 replace hH : Hp w.heap.size A w14 (o_3 (.slice none 0 0) ([] : (List Int)) :: []) := Hp.addNil (α := Int) (e := 3) hH
 have hn45 := Sl.le h_people
 obtain ⟨o20, ho20, hm⟩ := Bs hm
 refine zu (ι := ((List Int) × Value × (Nat → Prop))) (fun ⟨s21, v27, A29⟩ => [(7, v27)]) (fun ⟨s21, v27, A29⟩ => fun w' => o20 = .fin s21 ∧ Hp w.heap.size A29 w' (o_3 v27 s21 :: []) ∧ Tr Dw w.heap.size A w14 A29 w') ?_ ?_
 ·refine zl ?_
  refine zS ho20 (fun k23 s31 a w' => ∃ i : (Value × (Nat → Prop)), Has ⟨35, [], none⟩ a ([(1, v_needs), (7, i.1), (19, v_people), (20, Ii (people.length : Int)), (21, Ii (k23 : Int))]) ∧ Hp w.heap.size i.2 w' (o_3 i.1 s31 :: []) ∧ Tr Dw w.heap.size A w14 i.2 w') (fun a ha => ⟨(.slice none 0 0, A), ha.sb, ⟨hH, Tr.refl (Dw := Dw) hA⟩⟩) ?_
  rintro K k23 s31 a w33 ⟨⟨v34, A36⟩, ha110, hH37, hr22⟩ hle41 K44 h43
  refine C_of ?_ ha110
  replace hB := Bx hB hr22; replace hA := hr22.new
  obtain ⟨h_needs, h_people⟩ := T2 hr22 h_needs h_people
  replace hH := hH37
  refine Sr (Vy (zR rfl rfl) (To ?_))
  refine zh ?_
  refine Cc (fun hc46 => ?_) fun hc46 => ?_
  ·have hlt42 := zL hc46
   obtain ⟨x38, h39, h40⟩ := K44 hlt42
   refine Sk ?_
   refine zh ?_
   obtain ⟨s48, ho47, h39⟩ := Bs h39
   refine zu (ι := (Value × (Nat → Prop))) (fun ⟨v50, A55⟩ => [(1, v_needs), (7, v50), (19, v_people), (20, Ii (people.length : Int)), (21, Ii (k23 : Int))]) (fun ⟨v50, A55⟩ => fun w' => Hp w.heap.size A55 w' (o_3 v50 s48 :: []) ∧ Tr Dw w.heap.size A36 w33 A55 w') ?_ ?_
   ·have hr49 : Tr Dw w.heap.size A36 w33 A36 w33 := Tr.refl (Dw := Dw) hA
    refine zl (Sr (Mm ?_))
    obtain ⟨x57, hx57, ho47⟩ := Bs ho47
    refine zy h_people hx57 underlying22 sizeOf61 rfl rfl rfl ?_
    intro b58 o59 h60
    obtain ⟨v61, h63, h62⟩ := Zo h60
    refine Vy (zx h63 isAgg61 sizeOf61 rfl) ?_
    refine Zf zeroValue61 rfl ?_
    intro b64 w65 h66
    refine As ?_
    have h71 := Sl.oc h62
    refine Sn h66 sizeOf61 ?_
    intro w67 h68
    have hk73 := h68.kp (Dw := Dw)
    have h72 : El (α := zd) A36 w67 b64 0 x57 := h68.el hA ⟨[Ii x57.no], _, rfl, rfl, ⟨[Ii x57.capacity], _, rfl, rfl, ⟨[Ii x57.calendar], _, rfl, rfl, ⟨_, rfl, h62⟩⟩⟩⟩
    have ht74 := Kp.tr hk73 hA hB; replace hH := Hp.kp hH hk73; replace h_needs := Sl.tr h_needs ht74; replace hr49 := Tt hr49 ht74; replace hB := Bx hB ht74; replace hA := ht74.new
    refine To ?_
    refine Sr ?_
    obtain ⟨v75, h77, h76⟩ := Zo h72
    refine Vy (zx h77 isAgg61 sizeOf61 rfl) (Mm ?_)
    obtain ⟨x78, hx78, ho47⟩ := Bs ho47
    refine Vc call71 (zaW (Dw := Dw) w67 hA x57 v75 h76 needs v_needs h_needs hx78) ?_
    rintro _ w79 ⟨rfl, hk80⟩
    have ht81 := Kp.tr hk80 hA hB; replace hH := Hp.kp hH hk80; replace hr49 := Tt hr49 ht81; replace hB := Bx hB ht81; replace hA := ht81.new
    refine To ?_
    obtain ⟨s83, ho82, ho47⟩ := Bs ho47
    refine zu (ι := (Value × (Nat → Prop))) (fun ⟨v85, A90⟩ => [(1, v_needs), (7, v85), (19, v_people), (20, Ii (people.length : Int)), (21, Ii (k23 : Int))]) (fun ⟨v85, A90⟩ => fun w' => Hp w.heap.size A90 w' (o_3 v85 s83 :: []) ∧ Tr Dw w.heap.size A36 w79 A90 w') ?_ ?_
    ·have hr84 : Tr Dw w.heap.size A36 w79 A36 w79 := Tr.refl (Dw := Dw) hA
     refine Cc (fun hc92 => ?_) fun hc92 => ?_
     ·rw [if_pos hc92] at ho82
      refine zo (Mm (Mm ?_))
      refine zX (Dw := Dw) (cells := #[Ii (k23 : Int)]) (l := ([(k23 : Int)] : List Int)) (len := 1) underlying26 sizeOf3 zeroValue3 rfl (by generalize ((k23 : Int) : Int) = z97; kernel_rfl) (show (1 * 1 : Nat) ≠ 0 by decide) (show (1 * 1 : Nat) ≤ 2 ^ 24 by decide) hA ⟨[Ii (k23 : Int)], _, rfl, rfl, rfl⟩ rfl rfl ?_
      intro v93 w94 hk96 h95
      have ht98 := Kp.tr hk96 hA hB; replace hH := Hp.kp hH hk96; replace hr84 := Tt hr84 ht98; replace hB := Bx hB ht98; replace hA := ht98.new
      obtain ⟨x99, hx99, ho82⟩ := Bs ho82
      refine Zv (Dw := Dw) (e := 3) (v := v34) (l := s31) (ti := t3) (bytes := 8) (lim := 17592186044416) hH (i := 0) rfl h95 hx99 underlying26 QY rfl rfl rfl rfl (by decide) (by decide) (by decide) hB hA rfl rfl rfl ?_
      intro v100 w101 A102 hH103 ht104
      replace hr84 := Tt hr84 ht104; replace hH := hH103
      refine As ?_
      obtain rfl := Oi ho82
      refine zn (fun a ha105 => ?_)
      exact ⟨(v100, A102), ha105.sb, ⟨hH, hr84⟩⟩
     rw [if_neg (nt hc92)] at ho82
     obtain rfl := Oi ho82
     refine qL (fun a ha106 => ?_)
     exact ⟨(v34, A36), ha106.sb, ⟨hH, hr84⟩⟩
    rintro ⟨v85, A90⟩ w87 ⟨hH91, hk88⟩ a ha89
    replace hr49 := Tr.trans hr49 hk88; replace hA := hk88.new; replace hH := hH91
    obtain rfl := Oi ho47
    exact ⟨(v85, A90), ha89.sb, ⟨hH, hr49⟩⟩
   rintro ⟨v50, A55⟩ w52 ⟨hH56, hk53⟩ a ha54
   replace hr22 := Tr.trans hr22 hk53; replace hA := hk53.new; replace hH := hH56
   refine C_at (n := ⟨35, [], none⟩) (fun _ _ => rfl) ?_ ha54
   refine zo (Vy (zN rfl rfl) (Mm ?_))
   obtain rfl := Oi h39
   refine zn (fun a ha108 => ?_)
   exact ⟨s48, hlt42, h40, ⟨(v50, A55), ha108.sub ⟨rfl, rfl, rfl, rfl, Ws hlt42 hn45, trivial⟩, ⟨hH, hr22⟩⟩⟩
  refine zQ (fun a ha109 => ?_)
  exact ⟨(s31, v34, A36), ha109.sb, ⟨(h43 (zK hle41 hc46)).symm, hH, hr22⟩⟩
 rintro ⟨s21, v27, A29⟩ w24 ⟨rfl, hH30, hk25⟩ a ha26
 rw [Lp.andThen_fin] at hm
 replace hK := Tr.trans hK hk25; replace hA := hk25.new; replace hH := hH30
 refine C_at (n := ⟨35, [], none⟩) (fun _ _ => rfl) ?_ ha26
 refine Sr (Mm (As (As (To ?_))))
 obtain rfl := Oi hm
 refine Rt (Res.two results41 rfl rfl) ?_
 exact ⟨v27, rfl, (Hp.ownd hH (i := 0) rfl), hK.kp⟩
theorem zfQ (w : World) {A : Nat → Prop} (hA : ∀ b, w.heap.size ≤ b → A b) (people : (List zd)) (v_people : Value) (h_people : Sl A w v_people people) (cals : (List zg)) (v_cals : Value) (h_cals : Sl A w v_cals cals) (m : Int) {r : ((List Int) × Int)} (hm : zac people cals m = some r) : Ret prog 42 #[v_people, v_cals, Ii m] w fun v w' => ∃ s0, v = .tuple #[s0, Ii r.2] ∧ Ownd 3 w w' s0 r.1 ∧ Kp Dw w w' := by
 unfold zac at hm
 refine enter func42 rfl ntmps42 rfl ?_
 have hA0 := hA
 obtain ⟨hB, hK, hH⟩ := St (Dw := Dw) hA
 refine Sr (As (As (To ?_)))
 refine zh (Sr (Mm (Mm ?_)))
 obtain ⟨x5, hx5, hm⟩ := Bs hm
 refine Vc call17 (zbD (Dw := Dw) w hA people v_people h_people cals v_cals h_cals hx5) ?_
 rintro _ w6 ⟨rfl, hk7⟩
 have ht8 := Kp.tr hk7 hA hB; replace hH := Hp.kp hH hk7
 obtain ⟨h_people, h_cals, hK, hB, hA⟩ := U2 ht8 hK hB h_people h_cals
 refine Mm ?_
 refine Vc call69 (zcQ w6 m) ?_
 rintro _ _ ⟨rfl, rfl⟩
 refine zX (Dw := Dw) (cells := #[Ii x5, Ii (ZF m)]) (l := ([x5, (ZF m)] : List Int)) (len := 2) underlying150 sizeOf29 zeroValue29 rfl (by generalize ((ZF m) : Int) = z13; kernel_rfl) (show (2 * 1 : Nat) ≠ 0 by decide) (show (2 * 1 : Nat) ≤ 2 ^ 24 by decide) hA ⟨[Ii x5], _, rfl, rfl, ⟨[Ii (ZF m)], _, rfl, rfl, rfl⟩⟩ rfl rfl ?_
 intro v9 w10 hk12 h11
 have ht14 := Kp.tr hk12 hA hB; replace hH := Hp.kp hH hk12
 obtain ⟨h_people, h_cals, hK, hB, hA⟩ := U2 ht14 hK hB h_people h_cals
 obtain ⟨x15, hx15, hm⟩ := Bs hm
 refine Vc call68 (Qs w10 ([x5, (ZF m)] : List Int) v9 h11 hx15) ?_
 rintro _ _ ⟨rfl, rfl⟩
 refine As (To ?_)
 refine Sr (Mm (Vy (ZW rfl rfl) (To ?_)))
 refine Cc (fun hc16 => ?_) fun hc16 => ?_
 ·rw [if_pos hc16] at hm
  refine Sr (Mm (As (As (To ?_))))
  obtain rfl := Oi hm
  replace hH : Hp w.heap.size A w10 (o_3 (.slice none 0 0) ([] : (List Int)) :: []) := Hp.addNil (α := Int) (e := 3) hH
  refine Rt (Res.two results42 rfl rfl) ?_
  exact ⟨.slice none 0 0, rfl, (Hp.ownd hH (i := 0) rfl), hK.kp⟩
 rw [if_neg (nt hc16)] at hm
 refine Sk ?_
 refine Sr (As (To ?_))
 refine zh (Sr (Mm (Vy (zA h_people rfl underlying22 rfl) (Mm (To ?_)))))
 replace hH : Hp w.heap.size A w10 (o_3 (.slice none 0 0) ([] : (List Int)) :: []) := Hp.addNil (α := Int) (e := 3) hH
 have hn41 := Sl.le h_people
 obtain ⟨o17, ho17, hm⟩ := Bs hm
 refine zu (ι := ((List Int) × Value × (Nat → Prop))) (fun ⟨s18, v24, A26⟩ => [(9, v24)]) (fun ⟨s18, v24, A26⟩ => fun w' => o17 = .fin s18 ∧ Hp w.heap.size A26 w' (o_3 v24 s18 :: []) ∧ Tr Dw w.heap.size A w10 A26 w') ?_ ?_
 ·refine zl ?_
  refine zS ho17 (fun k20 s28 a w' => ∃ i : (Value × (Nat → Prop)), Has ⟨48, [], none⟩ a ([(1, v_cals), (2, Ii m), (9, i.1), (24, v_people), (25, Ii (people.length : Int)), (26, Ii (k20 : Int))]) ∧ Hp w.heap.size i.2 w' (o_3 i.1 s28 :: []) ∧ Tr Dw w.heap.size A w10 i.2 w') (fun a ha => ⟨(.slice none 0 0, A), ha.sb, ⟨hH, Tr.refl (Dw := Dw) hA⟩⟩) ?_
  rintro K k20 s28 a w29 ⟨⟨v30, A32⟩, ha115, hH33, hr19⟩ hle37 K40 h39
  refine C_of ?_ ha115
  replace hB := Bx hB hr19; replace hA := hr19.new
  obtain ⟨h_cals, h_people⟩ := T2 hr19 h_cals h_people
  replace hH := hH33
  refine Sr (Vy (zR rfl rfl) (To ?_))
  refine zh ?_
  refine Cc (fun hc42 => ?_) fun hc42 => ?_
  ·have hlt38 := zL hc42
   obtain ⟨x34, h35, h36⟩ := K40 hlt38
   refine Sk ?_
   refine zh ?_
   obtain ⟨s44, ho43, h35⟩ := Bs h35
   refine zu (ι := (Value × (Nat → Prop))) (fun ⟨v46, A51⟩ => [(1, v_cals), (2, Ii m), (9, v46), (24, v_people), (25, Ii (people.length : Int)), (26, Ii (k20 : Int))]) (fun ⟨v46, A51⟩ => fun w' => Hp w.heap.size A51 w' (o_3 v46 s44 :: []) ∧ Tr Dw w.heap.size A32 w29 A51 w') ?_ ?_
   ·have hr45 : Tr Dw w.heap.size A32 w29 A32 w29 := Tr.refl (Dw := Dw) hA
    refine zl (Sr (Mm ?_))
    obtain ⟨x53, hx53, ho43⟩ := Bs ho43
    refine zy h_people hx53 underlying22 sizeOf61 rfl rfl rfl ?_
    intro b54 o55 h56
    obtain ⟨v57, h59, h58⟩ := Zo h56
    refine Vy (zx h59 isAgg61 sizeOf61 rfl) ?_
    refine Zf zeroValue61 rfl ?_
    intro b60 w61 h62
    refine As ?_
    have h67 := Sl.oc h58
    refine Sn h62 sizeOf61 ?_
    intro w63 h64
    have hk69 := h64.kp (Dw := Dw)
    have h68 : El (α := zd) A32 w63 b60 0 x53 := h64.el hA ⟨[Ii x53.no], _, rfl, rfl, ⟨[Ii x53.capacity], _, rfl, rfl, ⟨[Ii x53.calendar], _, rfl, rfl, ⟨_, rfl, h58⟩⟩⟩⟩
    have ht70 := Kp.tr hk69 hA hB; replace hH := Hp.kp hH hk69; replace h_cals := Sl.tr h_cals ht70; replace hr45 := Tt hr45 ht70; replace hB := Bx hB ht70; replace hA := ht70.new
    refine To ?_
    refine Sr (Mm ?_)
    have h71 := ju h68
    refine Fa underlying61 rfl sizeOf3 (Li h71 isAgg3 ?_)
    obtain ⟨x72, hx72, ho43⟩ := Bs ho43
    refine zy h_cals hx72 underlying23 sizeOf71 rfl rfl rfl ?_
    intro b73 o74 h75
    obtain ⟨v76, v78, v80, h82, h77, h79, h81⟩ := Zg h75
    refine Vy (zx h82 isAgg71 sizeOf71 rfl) (Mm ?_)
    obtain ⟨x83, hx83, ho43⟩ := Bs ho43
    refine Vc call72 (zdo (Dw := Dw) w63 hA x72 v76 h77 v78 h79 v80 h81 m hx83) ?_
    rintro _ w84 ⟨rfl, hk85⟩
    have ht86 := Kp.tr hk85 hA hB; replace hH := Hp.kp hH hk85; replace hr45 := Tt hr45 ht86; replace hB := Bx hB ht86; replace hA := ht86.new
    refine Mm (Vy (zD rfl rfl) (Vy (zD rfl rfl) (As (As (To ?_)))))
    refine Sr (Mm (To ?_))
    obtain ⟨s88, ho87, ho43⟩ := Bs ho43
    refine zu (ι := (Value × (Nat → Prop))) (fun ⟨v90, A95⟩ => [(1, v_cals), (2, Ii m), (9, v90), (24, v_people), (25, Ii (people.length : Int)), (26, Ii (k20 : Int))]) (fun ⟨v90, A95⟩ => fun w' => Hp w.heap.size A95 w' (o_3 v90 s88 :: []) ∧ Tr Dw w.heap.size A32 w84 A95 w') ?_ ?_
    ·have hr89 : Tr Dw w.heap.size A32 w84 A32 w84 := Tr.refl (Dw := Dw) hA
     refine Cc (fun hc97 => ?_) fun hc97 => ?_
     ·rw [if_pos hc97] at ho87
      refine zo (Mm (Mm ?_))
      refine zX (Dw := Dw) (cells := #[Ii (k20 : Int)]) (l := ([(k20 : Int)] : List Int)) (len := 1) underlying26 sizeOf3 zeroValue3 rfl (by generalize ((k20 : Int) : Int) = z102; kernel_rfl) (show (1 * 1 : Nat) ≠ 0 by decide) (show (1 * 1 : Nat) ≤ 2 ^ 24 by decide) hA ⟨[Ii (k20 : Int)], _, rfl, rfl, rfl⟩ rfl rfl ?_
      intro v98 w99 hk101 h100
      have ht103 := Kp.tr hk101 hA hB; replace hH := Hp.kp hH hk101; replace hr89 := Tt hr89 ht103; replace hB := Bx hB ht103; replace hA := ht103.new
      obtain ⟨x104, hx104, ho87⟩ := Bs ho87
      refine Zv (Dw := Dw) (e := 3) (v := v30) (l := s28) (ti := t3) (bytes := 8) (lim := 17592186044416) hH (i := 0) rfl h100 hx104 underlying26 QY rfl rfl rfl rfl (by decide) (by decide) (by decide) hB hA rfl rfl rfl ?_
      intro v105 w106 A107 hH108 ht109
      replace hr89 := Tt hr89 ht109; replace hH := hH108
      refine As ?_
      obtain rfl := Oi ho87
      refine zn (fun a ha110 => ?_)
      exact ⟨(v105, A107), ha110.sb, ⟨hH, hr89⟩⟩
     rw [if_neg (nt hc97)] at ho87
     obtain rfl := Oi ho87
     refine qL (fun a ha111 => ?_)
     exact ⟨(v30, A32), ha111.sb, ⟨hH, hr89⟩⟩
    rintro ⟨v90, A95⟩ w92 ⟨hH96, hk93⟩ a ha94
    replace hr45 := Tr.trans hr45 hk93; replace hA := hk93.new; replace hH := hH96
    obtain rfl := Oi ho43
    exact ⟨(v90, A95), ha94.sb, ⟨hH, hr45⟩⟩
   rintro ⟨v46, A51⟩ w48 ⟨hH52, hk49⟩ a ha50
   replace hr19 := Tr.trans hr19 hk49; replace hA := hk49.new; replace hH := hH52
   refine C_at (n := ⟨48, [], none⟩) (fun _ _ => rfl) ?_ ha50
   refine zo (Vy (zN rfl rfl) (Mm ?_))
   obtain rfl := Oi h35
   refine zn (fun a ha113 => ?_)
   exact ⟨s44, hlt38, h36, ⟨(v46, A51), ha113.sub ⟨rfl, rfl, rfl, rfl, rfl, Ws hlt38 hn41, trivial⟩, ⟨hH, hr19⟩⟩⟩
  refine zQ (fun a ha114 => ?_)
  exact ⟨(s28, v30, A32), ha114.sb, ⟨(h39 (zK hle37 hc42)).symm, hH, hr19⟩⟩
 rintro ⟨s18, v24, A26⟩ w21 ⟨rfl, hH27, hk22⟩ a ha23
 rw [Lp.andThen_fin] at hm
 replace hK := Tr.trans hK hk22; replace hA := hk22.new; replace hH := hH27
 refine C_at (n := ⟨48, [], none⟩) (fun _ _ => rfl) ?_ ha23
 refine Sr (Mm (As (As (To ?_))))
 obtain rfl := Oi hm
 refine Rt (Res.two results42 rfl rfl) ?_
 exact ⟨v24, rfl, (Hp.ownd hH (i := 0) rfl), hK.kp⟩
theorem zcT (w : World) {A : Nat → Prop} (hA : ∀ b, w.heap.size ≤ b → A b) (p : zd) (v_p : Value) (h_p : Sl A w v_p p.skills) (p1 : Int) (b_p1 : Nat) (h_p1 : El A w b_p1 0 p1) {r : Bool} (hm : qT p p1 = some r) : Ret prog 44 #[.agg #[Ii p.no, Ii p.capacity, Ii p.calendar, v_p], Pt b_p1] w fun v w' => v = .bool r ∧ Kp Dw w w' := by
 unfold qT at hm
 refine enter func44 rfl ntmps44 rfl ?_
 have hA0 := hA
 obtain ⟨hB, hK, hH⟩ := St (Dw := Dw) hA
 refine Sr ?_
 refine Zy rfl rfl ?_
 intro b3 w4 h5
 have hk7 := h5.kp (Dw := Dw)
 have h6 : El (α := zd) A w4 b3 0 p := h5.el hA ⟨[Ii p.no], _, rfl, rfl, ⟨[Ii p.capacity], _, rfl, rfl, ⟨[Ii p.calendar], _, rfl, rfl, ⟨_, rfl, h_p⟩⟩⟩⟩
 have ht8 := Kp.tr hk7 hA hB; replace h_p1 := El.tr h_p1 ht8; replace hK := Tt hK ht8
 refine As (To ?_)
 refine Sr ?_
 have h9 := ZB h6
 refine Fa underlying61 rfl sizeOf3 (Li h9 isAgg3 (Li h_p1 isAgg3 (Vy (ql rfl rfl) (As (To ?_)))))
 obtain rfl := Oi hm
 refine Rt (Res.one results44 rfl) ?_
 exact ⟨rfl, hK.kp⟩
theorem zci (w : World) {A : Nat → Prop} (s : (List Int)) (v_s : Value) (h_s : Sl A w v_s s) (v : Int) {r : Int} (hm : jo s v = some r) : Ret prog 73 #[v_s, Ii v] w fun v w' => v = Ii r ∧ w = w' := by
 unfold jo at hm
 refine enter func73 rfl ntmps73 rfl ?_
 refine Sr (As (To ?_))
 refine zh (Sr (Mm (Vy (zA h_s rfl underlying26 rfl) (Mm (To ?_)))))
 have hn19 := Sl.le h_s
 obtain ⟨o3, ho3, hm⟩ := Bs hm
 refine zu (ι := Unit) (fun (s4 : Unit) => []) (fun (s4 : Unit) => fun w' => o3 = .fin s4 ∧ w = w') ?_ ?_
 ·refine zl ?_
  refine zS ho3 (fun k6 _ a w' => ∃ i : Unit, Has ⟨19, [], none⟩ a ([(0, v_s), (1, Ii v), (7, Ii (s.length : Int)), (8, Ii (k6 : Int))]) ∧ w = w') (fun a ha => ⟨(), ha.sb, rfl⟩) ?_
  rintro K k6 _ a _ ⟨_, ha28, rfl⟩ hle15 K18 h17
  refine C_of ?_ ha28
  refine Sr (Vy (zR rfl rfl) (To ?_))
  refine zh ?_
  refine Cc (fun hc20 => ?_) fun hc20 => ?_
  ·have hlt16 := zL hc20
   obtain ⟨x12, h13, h14⟩ := K18 hlt16
   refine Sk ?_
   refine zh (zl (Sr (Mm (As (To ?_)))))
   refine Sr (Mm (Mm (Mm ?_)))
   obtain ⟨x21, hx21, h13⟩ := Bs h13
   refine zy h_s hx21 underlying26 sizeOf3 rfl rfl rfl ?_
   intro b22 o23 h24
   refine Li h24 isAgg3 (Vy (ql rfl rfl) (To ?_))
   refine Cc (fun hc25 => ?_) fun hc25 => ?_
   ·rw [if_pos hc25] at h13
    refine Sr (Mm (As (To ?_)))
    obtain rfl := Oi h13
    obtain rfl := (h14 : Lp.rt _ = _)
    rw [Lp.andThen_rt] at hm
    obtain rfl := Oi hm
    refine Rt (Res.one results73 rfl) ?_
    exact ⟨rfl, rfl⟩
   rw [if_neg (nt hc25)] at h13
   refine Sk ?_
   refine zo (Vy (zN rfl rfl) (Mm ?_))
   obtain rfl := Oi h13
   refine zn (fun a ha26 => ?_)
   exact ⟨(), hlt16, h14, ⟨(), ha26.sub ⟨rfl, rfl, rfl, Ws hlt16 hn19, trivial⟩, rfl⟩⟩
  refine zQ (fun a ha27 => ?_)
  exact ⟨(), ha27.sub trivial, ⟨(h17 (zK hle15 hc20)).symm, rfl⟩⟩
 rintro s4 _ ⟨rfl, rfl⟩ a ha9
 rw [Lp.andThen_fin] at hm
 refine C_at (n := ⟨19, [], none⟩) (fun _ _ => rfl) ?_ ha9
 refine Sr (As (To ?_))
 obtain rfl := Oi hm
 refine Rt (Res.one results73 rfl) ?_
 exact ⟨rfl, rfl⟩
theorem JN (w : World) {A : Nat → Prop} (s : (List Int)) (v_s : Value) (h_s : Sl A w v_s s) (v : Int) {r : Bool} (hm : qe s v = some r) : Ret prog 45 #[v_s, Ii v] w fun v w' => v = .bool r ∧ w = w' := by
 unfold qe at hm
 refine enter func45 rfl ntmps45 rfl ?_
 refine Sr (As (To ?_))
 refine Sr (Mm (Mm ?_))
 obtain ⟨x3, hx3, hm⟩ := Bs hm
 refine Vc call73 (zci w s v_s h_s v hx3) ?_
 rintro _ _ ⟨rfl, rfl⟩
 refine Vy (Qz rfl rfl) (As (To ?_))
 obtain rfl := Oi hm
 refine Rt (Res.one results45 rfl) ?_
 exact ⟨rfl, rfl⟩
theorem JR (w : World) {A : Nat → Prop} (hA : ∀ b, w.heap.size ≤ b → A b) (people : (List zd)) (v_people : Value) (h_people : Sl A w v_people people) (cals : (List zg)) (v_cals : Value) (h_cals : Sl A w v_cals cals) (steps : (List zk)) (v_steps : Value) (h_steps : Sl A w v_steps steps) (w_ : za) (v_w_ : Value) (h_w_ : Sl A w v_w_ w_.needs) (no : Int) (m : Int) {r : Bool} (hm : Zp people cals steps w_ no m = some r) : Ret prog 14 #[v_people, v_cals, v_steps, .agg #[Ii w_.ticket, Ii w_.weight, Ii w_.urgency, Ii w_.since, Ii w_.former, v_w_], Ii no, Ii m] w fun v w' => v = .bool r ∧ Kp Dw w w' := by
 unfold Zp at hm
 refine enter func14 rfl ntmps14 rfl ?_
 have hA0 := hA
 obtain ⟨hB, hK, hH⟩ := St (Dw := Dw) hA
 refine Sr ?_
 refine Zy rfl rfl ?_
 intro b9 w10 h11
 have hk13 := h11.kp (Dw := Dw)
 have h12 : El (α := za) A w10 b9 0 w_ := h11.el hA ⟨[Ii w_.ticket], _, rfl, rfl, ⟨[Ii w_.weight], _, rfl, rfl, ⟨[Ii w_.urgency], _, rfl, rfl, ⟨[Ii w_.since], _, rfl, rfl, ⟨[Ii w_.former], _, rfl, rfl, ⟨_, rfl, h_w_⟩⟩⟩⟩⟩⟩
 have ht14 := Kp.tr hk13 hA hB; replace hH := Hp.kp hH hk13
 obtain ⟨h_people, h_cals, h_steps, hK, hB, hA⟩ := U3 ht14 hK hB h_people h_cals h_steps
 refine Zy rfl rfl ?_
 intro b15 w17 h18
 have hk20 := h18.kp (Dw := Dw)
 have h19 : El (α := Int) A w17 b15 0 no := h18.el hA rfl
 have ht21 := Kp.tr hk20 hA hB; replace hH := Hp.kp hH hk20; replace h12 := El.tr h12 ht21
 obtain ⟨h_people, h_cals, h_steps, hK, hB, hA⟩ := U3 ht21 hK hB h_people h_cals h_steps
 refine As (To ?_)
 refine Sr ?_
 obtain ⟨v22, h24, h23⟩ := Zt h12
 refine Vy (zx h24 isAgg38 sizeOf38 rfl) (Mm (Mm ?_))
 obtain ⟨x25, hx25, hm⟩ := Bs hm
 refine Vc call40 (zft (Dw := Dw) w17 hA w_ v22 h23 steps v_steps h_steps m hx25) ?_
 rintro _ w28 ⟨v26, rfl, h27, hk29⟩
 obtain ⟨A30, ht31, hH32⟩ := Hp.addOwnd (Dw := Dw) hH hB hA hk29 h27
 replace h19 := El.tr h19 ht31
 obtain ⟨h_people, h_cals, hK, hB, hA⟩ := U2 ht31 hK hB h_people h_cals
 replace hH := hH32
 refine Mm (Vy (zD rfl rfl) (Vy (zD rfl rfl) (As (As (To ?_)))))
 refine Sr (Mm (Mm ?_))
 obtain ⟨x33, hx33, hm⟩ := Bs hm
 refine Vc call41 (zhu (Dw := Dw) w28 (A := fun _ => True) (fun _ _ => trivial) people v_people (Sl.any h_people) x25.1 v26 (Hp.any (α := zi) (e := 64) (v := v26) (l := x25.1) hH (i := 0) rfl) hx33) ?_
 rintro _ w36 ⟨v34, rfl, h35, hk37⟩
 obtain ⟨A38, ht39, hH40⟩ := Hp.addOwnd (Dw := Dw) hH hB hA hk37 h35
 replace h19 := El.tr h19 ht39
 obtain ⟨h_people, h_cals, hK, hB, hA⟩ := U2 ht39 hK hB h_people h_cals
 replace hH := hH40
 refine Mm (Vy (zD rfl rfl) (Vy (zD rfl rfl) (As (As (To ?_)))))
 refine Sr (Mm (Mm (Mm ?_)))
 obtain ⟨x41, hx41, hm⟩ := Bs hm
 refine Vc call42 (zfQ (Dw := Dw) w36 hA people v_people h_people cals v_cals h_cals m hx41) ?_
 rintro _ w44 ⟨v42, rfl, h43, hk45⟩
 obtain ⟨A46, ht47, hH48⟩ := Hp.addOwnd (Dw := Dw) hH hB hA hk45 h43
 replace h19 := El.tr h19 ht47
 obtain ⟨h_people, hK, hB, hA⟩ := U1 ht47 hK hB h_people
 replace hH := hH48
 refine Mm (Vy (zD rfl rfl) (Vy (zD rfl rfl) (As (As (To ?_)))))
 refine Sr (Mm (Vy (qk rfl rfl) ?_))
 obtain ⟨x50, hx50, hm⟩ := Bs hm
 refine Vc call43 (qP (Dw := Dw) w44 hA people v_people h_people (fun y60 => qT y60 no) 44 #[] #[Pt b15] call44 (fun w56 A57 ht58 h59 y51 v52 h53 r54 h55 => (zcT (Dw := Dw) w56 h59 y51 v52 h53 no b15 (El.tr h19 ht58) h55).mono (fun _ _ h => ⟨h.1, h.2⟩)) hx50) ?_
 rintro _ w61 ⟨rfl, hk62⟩
 have ht63 := Kp.tr hk62 hA hB; replace hH := Hp.kp hH hk62; replace hK := Tt hK ht63
 refine As (To ?_)
 refine Sr (Mm (Vy (ql rfl rfl) (Mm ?_)))
 refine ZP 3 (fun _ : Unit => [(15, v34), (17, v42), (18, Ii x41.2), (19, Ii x50), (48, .bool ((x25.2 == 0) && (x33.2 == 0)))]) (fun _ w' => w61 = w') ?_ ?_
 ·simp only [List.take, List.drop]
  rcases Be (x25.2 == 0) with hc64 | hc64
  ·refine Gf hc64 (Mm (Gf hc64 (Vy (ql rfl rfl) (Vy (zF rfl hc64 rfl) ?_))))
   exact zn fun a ha => ⟨(), ha.sub ⟨rfl, rfl, rfl, rfl, (by rw [hc64]; rfl), trivial⟩, rfl⟩
  refine Gm hc64 (Gm hc64 (Vy (zG rfl hc64 rfl) ?_))
  exact zn fun a ha => ⟨(), ha.sub ⟨rfl, rfl, rfl, rfl, (by rw [hc64]; rfl), trivial⟩, rfl⟩
 simp only [List.take, List.drop]
 rintro _ _ rfl
 refine Mm ?_
 refine ZP 3 (fun _ : Unit => [(15, v34), (17, v42), (19, Ii x50), (52, .bool (((x25.2 == 0) && (x33.2 == 0)) && (x41.2 == 0)))]) (fun _ w' => w61 = w') ?_ ?_
 ·simp only [List.take, List.drop]
  rcases Be (((x25.2 == 0) && (x33.2 == 0))) with hc66 | hc66
  ·refine Gf hc66 (Mm (Gf hc66 (Vy (ql rfl rfl) (Vy (zF rfl hc66 rfl) ?_))))
   exact zn fun a ha => ⟨(), ha.sub ⟨rfl, rfl, rfl, (by rw [hc66]; rfl), trivial⟩, rfl⟩
  refine Gm hc66 (Gm hc66 (Vy (zG rfl hc66 rfl) ?_))
  exact zn fun a ha => ⟨(), ha.sub ⟨rfl, rfl, rfl, (by rw [hc66]; rfl), trivial⟩, rfl⟩
 simp only [List.take, List.drop]
 rintro _ _ rfl
 refine Mm ?_
 refine ZP 3 (fun _ : Unit => [(15, v34), (17, v42), (19, Ii x50), (56, .bool ((((x25.2 == 0) && (x33.2 == 0)) && (x41.2 == 0)) && (decide ((0 : Int) ≤ x50))))]) (fun _ w' => w61 = w') ?_ ?_
 ·simp only [List.take, List.drop]
  rcases Be ((((x25.2 == 0) && (x33.2 == 0)) && (x41.2 == 0))) with hc68 | hc68
  ·refine Gf hc68 (Mm (Gf hc68 (Vy (Qz rfl rfl) (Vy (zF rfl hc68 rfl) ?_))))
   exact zn fun a ha => ⟨(), ha.sub ⟨rfl, rfl, rfl, (by rw [hc68]; rfl), trivial⟩, rfl⟩
  refine Gm hc68 (Gm hc68 (Vy (zG rfl hc68 rfl) ?_))
  exact zn fun a ha => ⟨(), ha.sub ⟨rfl, rfl, rfl, (by rw [hc68]; rfl), trivial⟩, rfl⟩
 simp only [List.take, List.drop]
 rintro _ _ rfl
 refine Mm ?_
 obtain ⟨s71, hs71, hm⟩ := Bs hm
 refine ZP 4 (fun _ : Unit => [(17, v42), (19, Ii x50), (61, .bool s71)]) (fun _ w' => w61 = w') ?_ ?_
 ·simp only [List.take, List.drop]
  rcases Be (((((x25.2 == 0) && (x33.2 == 0)) && (x41.2 == 0)) && (decide ((0 : Int) ≤ x50)))) with hc70 | hc70
  ·rw [if_pos hc70] at hs71
   refine Gf hc70 (Mm (Gf hc70 (Mm (Gf hc70 ?_))))
   obtain ⟨x72, hx72, hs71⟩ := Bs hs71
   refine Vc call45 (JN w61 x33.1 v34 (Hp.any (α := Int) (e := 3) (v := v34) (l := x33.1) hH (i := 1) rfl) x50 hx72) ?_
   rintro _ _ ⟨rfl, rfl⟩
   refine Vy (zF rfl hc70 rfl) ?_
   obtain rfl := Oi hs71
   exact zn fun a ha => ⟨(), ha.sb, rfl⟩
  rw [if_neg (nt hc70)] at hs71
  refine Gm hc70 (Gm hc70 (Gm hc70 (Vy (zG rfl hc70 rfl) ?_)))
  obtain rfl := Oi hs71
  exact zn fun a ha => ⟨(), ha.sb, rfl⟩
 simp only [List.take, List.drop]
 rintro _ _ rfl
 refine Mm ?_
 obtain ⟨s74, hs74, hm⟩ := Bs hm
 refine ZP 4 (fun _ : Unit => [(66, .bool s74)]) (fun _ w' => w61 = w') ?_ ?_
 ·simp only [List.take, List.drop]
  rcases Be (s71) with hc73 | hc73
  ·rw [if_pos hc73] at hs74
   refine Gf hc73 (Mm (Gf hc73 (Mm (Gf hc73 ?_))))
   obtain ⟨x75, hx75, hs74⟩ := Bs hs74
   refine Vc call45 (JN w61 x41.1 v42 (Hp.any (α := Int) (e := 3) (v := v42) (l := x41.1) hH (i := 0) rfl) x50 hx75) ?_
   rintro _ _ ⟨rfl, rfl⟩
   refine Vy (zF rfl hc73 rfl) ?_
   obtain rfl := Oi hs74
   exact zn fun a ha => ⟨(), ha.sb, rfl⟩
  rw [if_neg (nt hc73)] at hs74
  refine Gm hc73 (Gm hc73 (Gm hc73 (Vy (zG rfl hc73 rfl) ?_)))
  obtain rfl := Oi hs74
  exact zn fun a ha => ⟨(), ha.sb, rfl⟩
 simp only [List.take, List.drop]
 rintro _ _ rfl
 refine As (To ?_)
 obtain rfl := Oi hm
 refine Rt (Res.one results14 rfl) ?_
 exact ⟨rfl, hK.kp⟩
theorem zeJ (w : World) {A : Nat → Prop} (hA : ∀ b, w.heap.size ≤ b → A b) (people : (List zd)) (v_people : Value) (h_people : Sl A w v_people people) (l : (List zb)) (v_l : Value) (h_l : Sl A w v_l l) {r : Int} (hm : jY people l = some r) : Ret prog 94 #[v_people, v_l] w fun v w' => v = Ii r ∧ Kp Dw w w' := by
 unfold jY at hm
 refine enter func94 rfl ntmps94 rfl ?_
 have hA0 := hA
 obtain ⟨hB, hK, hH⟩ := St (Dw := Dw) hA
 refine Sr (As (To ?_))
 refine zh (Sr (Mm (Vy (zA h_l rfl underlying34 rfl) (Vy (qz rfl rfl) (To ?_)))))
 refine Cc (fun hc5 => ?_) fun hc5 => ?_
 ·rw [if_pos hc5] at hm
  refine Sr (As (To ?_))
  obtain rfl := Oi hm
  refine Rt (Res.one results94 rfl) ?_
  exact ⟨rfl, hK.kp⟩
 rw [if_neg (nt hc5)] at hm
 refine Sk ?_
 refine zh (Sr (Mm (Vy (zA h_l rfl underlying34 rfl) (Mm (To ?_)))))
 have hn27 := Sl.le h_l
 obtain ⟨o6, ho6, hm⟩ := Bs hm
 refine zu (ι := (Unit × (Nat → Prop))) (fun ⟨s7, A13⟩ => []) (fun ⟨s7, A13⟩ => fun w' => o6 = .fin s7 ∧ Hp w.heap.size A13 w' ([]) ∧ Tr Dw w.heap.size A w A13 w') ?_ ?_
 ·refine zl ?_
  refine zS ho6 (fun k9 _ a w' => ∃ i : (Nat → Prop), Has ⟨54, [], none⟩ a ([(0, v_people), (1, v_l), (10, v_l), (11, Ii (l.length : Int)), (12, Ii (k9 : Int))]) ∧ Hp w.heap.size i w' ([]) ∧ Tr Dw w.heap.size A w i w') (fun a ha => ⟨A, ha.sb, ⟨hH, Tr.refl (Dw := Dw) hA⟩⟩) ?_
  rintro K k9 _ a w17 ⟨A18, ha69, hH19, hr8⟩ hle23 K26 h25
  refine C_of ?_ ha69
  obtain ⟨h_people, h_l, hK, hB, hA⟩ := U2 hr8 hK hB h_people h_l
  replace hH := hH19
  refine Sr (Vy (zR rfl rfl) (To ?_))
  refine zh ?_
  refine Cc (fun hc28 => ?_) fun hc28 => ?_
  ·have hlt24 := zL hc28
   obtain ⟨x20, h21, h22⟩ := K26 hlt24
   refine Sk ?_
   refine zh (zl (Sr (Mm ?_)))
   obtain ⟨x29, hx29, h21⟩ := Bs h21
   refine zy h_l hx29 underlying34 sizeOf46 rfl rfl rfl ?_
   intro b30 o31 h32
   obtain ⟨h33, _⟩ := qd h32
   refine Vy (zx h33 isAgg46 sizeOf46 rfl) ?_
   refine Zf zeroValue46 rfl ?_
   intro b34 w35 h36
   refine As ?_
   refine Sn h36 sizeOf46 ?_
   intro w37 h38
   have hk40 := h38.kp (Dw := Dw)
   have h39 : El (α := zb) A18 w37 b34 0 x29 := h38.el hA ⟨[Ii x29.ticket], _, rfl, rfl, ⟨[Ii x29.person], _, rfl, rfl, ⟨[Ii x29.weight], _, rfl, rfl, rfl⟩⟩⟩
   have ht41 := Kp.tr hk40 hA hB; replace hH := Hp.kp hH hk40; replace hr8 := Tt hr8 ht41
   obtain ⟨h_people, h_l, hK, hB, hA⟩ := U2 ht41 hK hB h_people h_l
   refine To ?_
   refine zl (Sr ?_)
   have h42 := qv h39
   refine Fa underlying46 rfl sizeOf3 (Li h42 isAgg3 ?_)
   refine Vc call52 (Zq w37 x29.ticket 1 400) ?_
   rintro _ _ ⟨rfl, rfl⟩
   refine Vy (Zs rfl) (As (To ?_))
   refine Cc (fun hc43 => ?_) fun hc43 => ?_
   ·rw [if_pos hc43] at h21
    refine Sr (As (To ?_))
    obtain rfl := Oi h21
    obtain rfl := (h22 : Lp.rt _ = _)
    rw [Lp.andThen_rt] at hm
    obtain rfl := Oi hm
    refine Rt (Res.one results94 rfl) ?_
    exact ⟨rfl, hK.kp⟩
   rw [if_neg (nt hc43)] at h21
   refine zh ?_
   refine ZR (Dw := Dw) zH (by kernel_rfl) ?_
   refine Qm (Qv (fun w' hw' => qz rfl rfl) (Qm ?_))
   obtain ⟨s45, hs45, h21⟩ := Bs h21
   refine jG 10 (fun _ : Unit => [(0, v_people), (1, v_l), (6, Pt b34), (10, v_l), (11, Ii (l.length : Int)), (12, Ii (k9 : Int)), (35, .bool s45)]) (fun _ => True) ?_ ?_
   ·simp only [List.take, List.drop]
    rcases Be (decide ((0 : Int) < (k9 : Int))) with hc44 | hc44
    ·rw [if_pos hc44] at hs45
     refine Qh hc44 ?_
     have h46 := qv h39
     refine Qf underlying46 rfl sizeOf3 (Qh hc44 (Qi h46 isAgg3 (Qh hc44 (Qm (Qh hc44 (Qm (Qh hc44 (Qv (fun w' hw' => Qw rfl rfl) (Qh hc44 ?_)))))))))
     obtain ⟨x47, hx47, hs45⟩ := Bs hs45
     refine Zl h_l hx47 underlying34 sizeOf46 rfl rfl rfl ?_
     intro b48 o49 h50
     refine Qh hc44 ?_
     have h51 := qv h50
     refine Qf underlying46 rfl sizeOf3 (Qh hc44 (Qi h51 isAgg3 (Qh hc44 (Qv (fun w' hw' => JA rfl rfl) ?_))))
     refine VQ_y (fun _ _ => zF rfl hc44 rfl) rfl rfl rfl ?_
     obtain rfl := Oi hs45
     exact ZK fun a ha => ⟨(), ha.sb, trivial⟩
    rw [if_neg (nt hc44)] at hs45
    refine Qg hc44 (Qg hc44 (Qg hc44 (Qg hc44 (Qg hc44 (Qg hc44 (Qg hc44 (Qg hc44 (Qg hc44 ?_))))))))
    refine VQ_y (fun _ _ => zG rfl hc44 rfl) rfl rfl rfl ?_
    obtain rfl := Oi hs45
    exact ZK fun a ha => ⟨(), ha.sb, trivial⟩
   simp only [List.take, List.drop]
   rintro _ _
   refine Qa ?_
   refine jR (fun _ _ => rfl) (fun w52 hk53 => ?_)
   have ht54 := Kp.tr hk53 hA hB; replace hH := Hp.kp hH hk53; replace h39 := El.tr h39 ht54; replace hr8 := Tt hr8 ht54
   obtain ⟨h_people, hK, hB, hA⟩ := U1 ht54 hK hB h_people
   refine Cc (fun hc55 => ?_) fun hc55 => ?_
   ·rw [if_pos hc55] at h21
    refine Sr (As (To ?_))
    obtain rfl := Oi h21
    obtain rfl := (h22 : Lp.rt _ = _)
    rw [Lp.andThen_rt] at hm
    obtain rfl := Oi hm
    refine Rt (Res.one results94 rfl) ?_
    exact ⟨rfl, hK.kp⟩
   rw [if_neg (nt hc55)] at h21
   refine Sr (Mm ?_)
   have h56 := jk h39
   refine Fa underlying46 rfl sizeOf3 (Li h56 isAgg3 ?_)
   obtain ⟨x57, hx57, h21⟩ := Bs h21
   refine Vc call67 (JE (Dw := Dw) w52 hA people v_people h_people x29.person hx57) ?_
   rintro _ w58 ⟨rfl, hk59⟩
   have ht60 := Kp.tr hk59 hA hB; replace hH := Hp.kp hH hk59; replace h39 := El.tr h39 ht60; replace hK := Tt hK ht60; replace hr8 := Tt hr8 ht60
   refine Vy (zR rfl rfl) (As (To ?_))
   refine Cc (fun hc61 => ?_) fun hc61 => ?_
   ·rw [if_pos hc61] at h21
    refine Sr (As (To ?_))
    obtain rfl := Oi h21
    obtain rfl := (h22 : Lp.rt _ = _)
    rw [Lp.andThen_rt] at hm
    obtain rfl := Oi hm
    refine Rt (Res.one results94 rfl) ?_
    exact ⟨rfl, hK.kp⟩
   rw [if_neg (nt hc61)] at h21
   refine Sr ?_
   have h62 := zaP h39
   refine Fa underlying46 rfl sizeOf3 (Li h62 isAgg3 ?_)
   refine Vc call52 (Zq w58 x29.weight 1 20) ?_
   rintro _ _ ⟨rfl, rfl⟩
   refine Vy (Zs rfl) (Mm ?_)
   refine ZP 5 (fun _ : Unit => [(0, v_people), (1, v_l), (10, v_l), (11, Ii (l.length : Int)), (12, Ii (k9 : Int)), (52, .bool ((!(zm x29.weight 1 20)) || (!(zm x29.since 0 3000000))))]) (fun _ w' => w58 = w') ?_ ?_
   ·simp only [List.take, List.drop]
    rcases Be (!(zm x29.weight 1 20)) with hc63 | hc63
    ·refine Gm hc63 (Gm hc63 (Gm hc63 (Gm hc63 (Vy (zF rfl hc63 rfl) ?_))))
     exact zn fun a ha => ⟨(), ha.sub ⟨rfl, rfl, rfl, rfl, rfl, (by rw [hc63]; rfl), trivial⟩, rfl⟩
    refine Gf hc63 ?_
    have h65 := JX h39
    refine Fa underlying46 rfl sizeOf3 (Gf hc63 (Li h65 isAgg3 (Gf hc63 ?_)))
    refine Vc call52 (Zq w58 x29.since 0 3000000) ?_
    rintro _ _ ⟨rfl, rfl⟩
    refine Gf hc63 (Vy (Zs rfl) (Vy (zG rfl hc63 rfl) ?_))
    exact zn fun a ha => ⟨(), ha.sub ⟨rfl, rfl, rfl, rfl, rfl, (by rw [hc63]; rfl), trivial⟩, rfl⟩
   simp only [List.take, List.drop]
   rintro _ _ rfl
   refine As (To ?_)
   refine Cc (fun hc66 => ?_) fun hc66 => ?_
   ·rw [if_pos hc66] at h21
    refine Sr (As (To ?_))
    obtain rfl := Oi h21
    obtain rfl := (h22 : Lp.rt _ = _)
    rw [Lp.andThen_rt] at hm
    obtain rfl := Oi hm
    refine Rt (Res.one results94 rfl) ?_
    exact ⟨rfl, hK.kp⟩
   rw [if_neg (nt hc66)] at h21
   refine Sk ?_
   refine zo (Vy (zN rfl rfl) (Mm ?_))
   obtain rfl := Oi h21
   refine zn (fun a ha67 => ?_)
   exact ⟨(), hlt24, h22, ⟨A18, ha67.sub ⟨rfl, rfl, rfl, rfl, Ws hlt24 hn27, trivial⟩, ⟨hH, hr8⟩⟩⟩
  refine zQ (fun a ha68 => ?_)
  exact ⟨((), A18), ha68.sub trivial, ⟨(h25 (zK hle23 hc28)).symm, hH, hr8⟩⟩
 rintro ⟨s7, A13⟩ w10 ⟨rfl, hH14, hk11⟩ a ha12
 rw [Lp.andThen_fin] at hm
 replace hK := Tr.trans hK hk11; replace hA := hk11.new; replace hH := hH14
 refine C_at (n := ⟨54, [], none⟩) (fun _ _ => rfl) ?_ ha12
 refine Sr (As (To ?_))
 obtain rfl := Oi hm
 refine Rt (Res.one results94 rfl) ?_
 exact ⟨rfl, hK.kp⟩
theorem zeI (w : World) {A : Nat → Prop} (hA : ∀ b, w.heap.size ≤ b → A b) (people : (List zd)) (v_people : Value) (h_people : Sl A w v_people people) (l : (List zb)) (v_l : Value) (h_l : Sl A w v_l l) {r : Int} (hm : Jf people l = some r) : Ret prog 74 #[v_people, v_l] w fun v w' => v = Ii r ∧ Kp Dw w w' := by
 unfold Jf at hm
 refine enter func74 rfl ntmps74 rfl ?_
 have hA0 := hA
 obtain ⟨hB, hK, hH⟩ := St (Dw := Dw) hA
 refine Sr (As (To ?_))
 refine zh (Sr (Mm ?_))
 obtain ⟨x5, hx5, hm⟩ := Bs hm
 refine Vc call50 (JV (Dw := Dw) w hA people v_people h_people hx5) ?_
 rintro _ w6 ⟨rfl, hk7⟩
 have ht8 := Kp.tr hk7 hA hB
 obtain ⟨h_people, h_l, hK, hB, hA⟩ := U2 ht8 hK hB h_people h_l
 refine As (To ?_)
 refine Sr (Mm (Vy (ZW rfl rfl) (To ?_)))
 refine Cc (fun hc9 => ?_) fun hc9 => ?_
 ·rw [if_pos hc9] at hm
  refine Sr (Mm (As (To ?_)))
  obtain rfl := Oi hm
  refine Rt (Res.one results74 rfl) ?_
  exact ⟨rfl, hK.kp⟩
 rw [if_neg (nt hc9)] at hm
 refine Sk ?_
 refine Sr (Mm (Mm ?_))
 obtain ⟨x10, hx10, hm⟩ := Bs hm
 refine Vc call94 (zeJ (Dw := Dw) w6 hA people v_people h_people l v_l h_l hx10) ?_
 rintro _ w11 ⟨rfl, hk12⟩
 have ht13 := Kp.tr hk12 hA hB; replace hK := Tt hK ht13
 refine As (To ?_)
 obtain rfl := Oi hm
 refine Rt (Res.one results74 rfl) ?_
 exact ⟨rfl, hK.kp⟩
theorem zhM (w : World) {A : Nat → Prop} (hA : ∀ b, w.heap.size ≤ b → A b) (people : (List zd)) (v_people : Value) (h_people : Sl A w v_people people) (held : (List zb)) (v_held : Value) (h_held : Sl A w v_held held) {r : ((List Int) × Int)} (hm : zaK people held = some r) : Ret prog 46 #[v_people, v_held] w fun v w' => ∃ s0, v = .tuple #[s0, Ii r.2] ∧ Ownd 3 w w' s0 r.1 ∧ Kp Dw w w' := by
 unfold zaK at hm
 refine enter func46 rfl ntmps46 rfl ?_
 have hA0 := hA
 obtain ⟨hB, hK, hH⟩ := St (Dw := Dw) hA
 refine Sr (As (As (To ?_)))
 refine zh (Sr (Mm (Mm ?_)))
 obtain ⟨x5, hx5, hm⟩ := Bs hm
 refine Vc call74 (zeI (Dw := Dw) w hA people v_people h_people held v_held h_held hx5) ?_
 rintro _ w6 ⟨rfl, hk7⟩
 have ht8 := Kp.tr hk7 hA hB; replace hH := Hp.kp hH hk7
 obtain ⟨h_people, h_held, hK, hB, hA⟩ := U2 ht8 hK hB h_people h_held
 refine As (To ?_)
 refine Sr (Mm (Vy (ZW rfl rfl) (To ?_)))
 refine Cc (fun hc9 => ?_) fun hc9 => ?_
 ·rw [if_pos hc9] at hm
  refine Sr (Mm (As (As (To ?_))))
  obtain rfl := Oi hm
  replace hH : Hp w.heap.size A w6 (o_3 (.slice none 0 0) ([] : (List Int)) :: []) := Hp.addNil (α := Int) (e := 3) hH
  refine Rt (Res.two results46 rfl rfl) ?_
  exact ⟨.slice none 0 0, rfl, (Hp.ownd hH (i := 0) rfl), hK.kp⟩
 rw [if_neg (nt hc9)] at hm
 refine Sk ?_
 refine Sr (Mm (Mm ?_))
 obtain ⟨x10, hx10, hm⟩ := Bs hm
 refine Vc call75 (Qu (Dw := Dw) w6 hA people v_people h_people held v_held h_held hx10) ?_
 rintro v11 w13 ⟨_, rfl, h12, hk14⟩
 obtain ⟨A15, ht16, hH17⟩ := Hp.addOwnd (Dw := Dw) hH hB hA hk14 h12
 obtain ⟨h_people, hK, hB, hA⟩ := U1 ht16 hK hB h_people
 replace hH := hH17
 refine As (To ?_)
 refine zh (Sr (Mm (Vy (zA h_people rfl underlying22 rfl) (Mm (To ?_)))))
 have hn42 := Sl.le h_people
 obtain ⟨o18, ho18, hm⟩ := Bs hm
 refine zu (ι := ((List Int) × Value × (Nat → Prop))) (fun ⟨s19, v25, A27⟩ => [(7, v25)]) (fun ⟨s19, v25, A27⟩ => fun w' => o18 = .fin s19 ∧ Hp w.heap.size A27 w' (o_3 v25 s19 :: []) ∧ Tr Dw w.heap.size A15 w13 A27 w') ?_ ?_
 ·refine zl ?_
  refine zS ho18 (fun k21 s29 a w' => ∃ i : (Value × (Nat → Prop)), Has ⟨38, [], none⟩ a ([(7, i.1), (19, v_people), (20, Ii (people.length : Int)), (21, Ii (k21 : Int))]) ∧ Hp w.heap.size i.2 w' (o_3 i.1 s29 :: []) ∧ Tr Dw w.heap.size A15 w13 i.2 w') (fun a ha => ⟨(v11, A15), ha.sb, ⟨hH, Tr.refl (Dw := Dw) hA⟩⟩) ?_
  rintro K k21 s29 a w30 ⟨⟨v31, A33⟩, ha81, hH34, hr20⟩ hle38 K41 h40
  refine C_of ?_ ha81
  replace h_people := Sl.tr h_people hr20; replace hB := Bx hB hr20; replace hA := hr20.new; replace hH := hH34
  refine Sr (Vy (zR rfl rfl) (To ?_))
  refine zh ?_
  refine Cc (fun hc43 => ?_) fun hc43 => ?_
  ·have hlt39 := zL hc43
   obtain ⟨x35, h36, h37⟩ := K41 hlt39
   refine Sk ?_
   refine zh (zl (Sr (Mm ?_)))
   obtain ⟨x44, hx44, h36⟩ := Bs h36
   refine zy h_people hx44 underlying22 sizeOf61 rfl rfl rfl ?_
   intro b45 o46 h47
   obtain ⟨v48, h50, h49⟩ := Zo h47
   refine Vy (zx h50 isAgg61 sizeOf61 rfl) ?_
   refine Zf zeroValue61 rfl ?_
   intro b51 w52 h53
   refine As ?_
   have h58 := Sl.oc h49
   refine Sn h53 sizeOf61 ?_
   intro w54 h55
   have hk60 := h55.kp (Dw := Dw)
   have h59 : El (α := zd) A33 w54 b51 0 x44 := h55.el hA ⟨[Ii x44.no], _, rfl, rfl, ⟨[Ii x44.capacity], _, rfl, rfl, ⟨[Ii x44.calendar], _, rfl, rfl, ⟨_, rfl, h49⟩⟩⟩⟩
   have ht61 := Kp.tr hk60 hA hB; replace hH := Hp.kp hH hk60; replace hr20 := Tt hr20 ht61; replace hB := Bx hB ht61; replace hA := ht61.new
   refine To ?_
   refine ZZ (Dw := Dw) 10 zH (by kernel_rfl) ?_
   simp only [List.take, List.drop]
   refine Qm (Qm ?_)
   have h62 := qN h59
   refine Qf underlying61 rfl sizeOf3 (Qi h62 isAgg3 (Qm (Qm ?_)))
   obtain ⟨x63, hx63, h36⟩ := Bs h36
   refine Zd (α := Int) (e := 3) (v := v31) (l := s29) hH (i := 0) rfl hx63 underlying26 sizeOf3 rfl rfl rfl ?_
   intro b64 o65 h66 hl67
   refine Qi h66 isAgg3 (Qv (fun w' hw' => Qw rfl rfl) ?_)
   refine Zd (α := Int) (e := 3) (v := v31) (l := s29) hH (i := 0) rfl hx63 underlying26 sizeOf3 rfl rfl rfl ?_
   intro b68 o69 h70 hl71
   refine QU (fun w72 hk73 => ?_)
   try simp only [List.take, List.drop]
   have ht74 := Kp.tr hk73 hA hB; replace hH := Hp.kp hH hk73; replace hr20 := Tt hr20 ht74; replace hB := Bx hB ht74; replace hA := ht74.new
   obtain ⟨x75, hx75, h36⟩ := Bs h36
   refine jI (Dw := Dw) (α := Int) (e := 3) (v := v31) (l := s29) hH (i := 0) rfl hl71 hx75 rfl sizeOf3 rfl hB hA rfl rfl ?_
   intro w76 hH77 ht78
   replace hr20 := Tt hr20 ht78; replace hH := hH77
   refine To ?_
   refine zo (Vy (zN rfl rfl) (Mm ?_))
   obtain rfl := Oi h36
   refine zn (fun a ha79 => ?_)
   exact ⟨x75, hlt39, h37, ⟨(v31, A33), ha79.sub ⟨rfl, rfl, rfl, Ws hlt39 hn42, trivial⟩, ⟨hH, hr20⟩⟩⟩
  refine zQ (fun a ha80 => ?_)
  exact ⟨(s29, v31, A33), ha80.sb, ⟨(h40 (zK hle38 hc43)).symm, hH, hr20⟩⟩
 rintro ⟨s19, v25, A27⟩ w22 ⟨rfl, hH28, hk23⟩ a ha24
 rw [Lp.andThen_fin] at hm
 replace hK := Tr.trans hK hk23; replace hA := hk23.new; replace hH := hH28
 refine C_at (n := ⟨38, [], none⟩) (fun _ _ => rfl) ?_ ha24
 refine Sr (Mm (As (As (To ?_))))
 obtain rfl := Oi hm
 refine Rt (Res.two results46 rfl rfl) ?_
 exact ⟨v25, rfl, (Hp.ownd hH (i := 0) rfl), hK.kp⟩
theorem zcM (w : World) {A : Nat → Prop} {B : Nat} (hB : B ≤ w.heap.size) (hA : ∀ b, w.heap.size ≤ b → A b) (r_ : ze) (b_r_ : Nat) (v_r_0 : Value) (h_r_0 : Sl A w v_r_0 r_.assigner.people) (v_r_1 : Value) (h_r_1 : Sl A w v_r_1 r_.assigner.cals) (v_r_2 : Value) (h_r_2 : Sl A w v_r_2 r_.assigner.steps) (v_r_3 : Value) (v_r_4 : Value) (h_r_4 : Sl A w v_r_4 r_.waiting) (v_r_5 : Value) (h_r_5 : Sl A w v_r_5 r_.held) (m_r_0 : Nat) {L : List Ob} (hH : Hp B A w (obC b_r_ [v_r_0, v_r_1, v_r_2, v_r_3, Ii r_.now, v_r_4, v_r_5, .map (some m_r_0)] 58 :: o_4 v_r_3 r_.assigner.away :: obRM (κ := Int) (α := za) m_r_0 r_.work :: L)) {r : (List za)} (hm : qG r_ = some r) : Ret prog 47 #[Pt b_r_] w fun v w' => ∃ s0, ∃ A1 : Nat → Prop, v = s0 ∧ Sl A1 w' s0 r ∧ Hp B A1 w' (obC b_r_ [v_r_0, v_r_1, v_r_2, v_r_3, Ii r_.now, v_r_4, v_r_5, .map (some m_r_0)] 58 :: o_4 v_r_3 r_.assigner.away :: obRM (κ := Int) (α := za) m_r_0 r_.work :: L) ∧ Tr Dw B A w A1 w' := by
 unfold qG at hm
 refine enter func47 rfl ntmps47 rfl ?_
 have hK : Tr Dw B A w A w := Tr.refl (Dw := Dw) hA
 refine Sr (As (To ?_))
 refine Sr (Mm (Nc (Vy (Fc 5 underlying58 rfl sizeOf25 rfl rfl) (Ld (Hc 5 0 hH rfl rfl) isAgg25 ?_))))
 obtain ⟨x14, hx14, hm⟩ := Bs hm
 refine Vc call32 (ZA (Dw := Dw) w hB hA r_.waiting v_r_4 h_r_4 hH hx14) ?_
 rintro v15 w17 ⟨_, A18, rfl, hH19, ht20⟩
 obtain ⟨hK, hB, hA⟩ := U0 ht20 hK hB
 replace hH := hH19
 refine As (To ?_)
 refine zh (Sr (Mm (Vy (zA (Hp.any (α := za) (e := 38) (v := v15) (l := x14) hH (i := 0) rfl) rfl underlying25 rfl) (Mm (To ?_)))))
 have hn45 := Hp.le (α := za) (e := 38) (v := v15) (l := x14) hH (i := 0) rfl
 obtain ⟨o21, ho21, hm⟩ := Bs hm
 refine zu (ι := ((List za) × Value × (Nat → Prop))) (fun ⟨s22, v28, A30⟩ => [(3, v28)]) (fun ⟨s22, v28, A30⟩ => fun w' => o21 = .fin s22 ∧ Hp B A30 w' (o_38 v28 s22 :: obC b_r_ [v_r_0, v_r_1, v_r_2, v_r_3, Ii r_.now, v_r_4, v_r_5, .map (some m_r_0)] 58 :: o_4 v_r_3 r_.assigner.away :: obRM (κ := Int) (α := za) m_r_0 r_.work :: L) ∧ Tr Dw B A18 w17 A30 w') ?_ ?_
 ·refine zl ?_
  refine zS ho21 (fun k24 s32 a w' => ∃ i : (Value × (Nat → Prop)), Has ⟨27, [], none⟩ a ([(3, i.1), (11, Ii (x14.length : Int)), (12, Ii (k24 : Int))]) ∧ Hp B i.2 w' (o_38 i.1 s32 :: obC b_r_ [v_r_0, v_r_1, v_r_2, v_r_3, Ii r_.now, v_r_4, v_r_5, .map (some m_r_0)] 58 :: o_4 v_r_3 r_.assigner.away :: obRM (κ := Int) (α := za) m_r_0 r_.work :: L) ∧ Tr Dw B A18 w17 i.2 w') (fun a ha => ⟨(v15, A18), ha.sb, ⟨hH, Tr.refl (Dw := Dw) hA⟩⟩) ?_
  rintro K k24 s32 a w33 ⟨⟨v34, A36⟩, ha83, hH37, hr23⟩ hle41 K44 h43
  refine C_of ?_ ha83
  replace hB := Bx hB hr23; replace hA := hr23.new; replace hH := hH37
  refine Sr (Vy (zR rfl rfl) (To ?_))
  refine zh ?_
  refine Cc (fun hc46 => ?_) fun hc46 => ?_
  ·have hlt42 := zL hc46
   obtain ⟨x38, h39, h40⟩ := K44 hlt42
   refine Sk ?_
   refine zh (zl (Sr (Mm (As (To ?_)))))
   refine zo (Mm (Mm (Mm (Mm ?_))))
   obtain ⟨x47, hx47, h39⟩ := Bs h39
   refine ZQ (α := za) (e := 38) (v := v34) (l := s32) hH (i := 0) rfl hx47 underlying25 sizeOf38 rfl rfl rfl ?_
   intro b48 o49 h50 hl51
   have h52 := jZ h50
   refine Fa underlying38 rfl sizeOf36 ?_
   obtain ⟨v53, h54, h55⟩ := El.list h52
   refine Ld h54 isAgg36 ?_
   obtain ⟨x56, hx56, h39⟩ := Bs h39
   refine Vc call20 (Zx (Dw := Dw) w33 (A := fun _ => True) (fun _ _ => trivial) x47.needs v53 (Sl.any h55) hx56) ?_
   rintro v57 w59 ⟨_, rfl, h58, hk60⟩
   obtain ⟨A61, ht62, hH63⟩ := Hp.addOwnd (Dw := Dw) hH hB hA hk60 h58
   replace hr23 := Tt hr23 ht62; replace hB := Bx hB ht62; replace hA := ht62.new; replace hH := hH63
   refine ZQ (α := za) (e := 38) (v := v34) (l := s32) hH (i := 1) rfl hx47 underlying25 sizeOf38 rfl rfl rfl ?_
   intro b64 o65 h66 hl67
   have h68 := jZ h66
   refine Fa underlying38 rfl sizeOf36 ?_
   obtain ⟨A69, ht70, h71, hH72⟩ := Hp.freeze (Dw := Dw) (α := zi) (v := v57) (l := x56) hH (i := 0) rfl hA
   replace hr23 := Tt hr23 ht70; replace hB := Bx hB ht70; replace hA := ht70.new; replace hH := hH72
   obtain ⟨x74, hx74, h39⟩ := Bs h39
   have h80 := Sl.oc h71
   refine zcz (Dw := Dw) (α := za) (e := 38) (v := v34) (l := s32) (foff := 5) hH (i := 0) rfl hl67 hx47 hx74 (fun _ h => by obtain ⟨_, _, rfl, rfl, ⟨_, _, rfl, rfl, ⟨_, _, rfl, rfl, ⟨_, _, rfl, rfl, ⟨_, _, rfl, rfl, ⟨v1, rfl, h1⟩⟩⟩⟩⟩⟩ := h; rw [Value.cells_one h80]; exact ⟨[_], _, rfl, rfl, ⟨[_], _, rfl, rfl, ⟨[_], _, rfl, rfl, ⟨[_], _, rfl, rfl, ⟨[_], _, rfl, rfl, ⟨_, rfl, h71⟩⟩⟩⟩⟩⟩) sizeOf36 (by rw [← Array.length_toList, Value.cells_one h80]; rfl) (by intro u hu; rw [Value.cells_one h80] at hu; simp at hu; subst hu; exact h80) (by decide) hB hA (congrArg (fun z => some (Value.pointer (some ⟨_, z, none⟩))) (by simp [Nat.add_assoc])) rfl ?_
   intro w75 hH76 ht77
   replace hr23 := Tt hr23 ht77; replace hH := hH76
   refine To ?_
   refine zo (Vy (zN rfl rfl) (Mm ?_))
   obtain rfl := Oi h39
   refine zn (fun a ha81 => ?_)
   exact ⟨x74, hlt42, h40, ⟨(v34, A69), ha81.sub ⟨rfl, rfl, Ws hlt42 hn45, trivial⟩, ⟨hH, hr23⟩⟩⟩
  refine zQ (fun a ha82 => ?_)
  exact ⟨(s32, v34, A36), ha82.sb, ⟨(h43 (zK hle41 hc46)).symm, hH, hr23⟩⟩
 rintro ⟨s22, v28, A30⟩ w25 ⟨rfl, hH31, hk26⟩ a ha27
 rw [Lp.andThen_fin] at hm
 replace hK := Tr.trans hK hk26; replace hA := hk26.new; replace hH := hH31
 refine C_at (n := ⟨27, [], none⟩) (fun _ _ => rfl) ?_ ha27
 refine Sr (Mm (As (To ?_)))
 obtain rfl := Oi hm
 obtain ⟨A84, ht85, h86, hH87⟩ := Hp.freeze (Dw := Dw) (α := za) (v := v28) (l := s22) hH (i := 0) rfl hA
 replace hK := Tt hK ht85; replace hH := hH87
 refine Rt (Res.one results47 rfl) ?_
 exact ⟨v28, A84, rfl, h86, hH, hK⟩
theorem zcV (w : World) {A : Nat → Prop} {B : Nat} (hB : B ≤ w.heap.size) (hA : ∀ b, w.heap.size ≤ b → A b) (r_ : ze) (b_r_ : Nat) (v_r_0 : Value) (h_r_0 : Sl A w v_r_0 r_.assigner.people) (v_r_1 : Value) (h_r_1 : Sl A w v_r_1 r_.assigner.cals) (v_r_2 : Value) (h_r_2 : Sl A w v_r_2 r_.assigner.steps) (v_r_3 : Value) (v_r_4 : Value) (h_r_4 : Sl A w v_r_4 r_.waiting) (v_r_5 : Value) (h_r_5 : Sl A w v_r_5 r_.held) (m_r_0 : Nat) (people : (List zd)) (v_people : Value) (h_people : Sl A w v_people people) (cals : (List zg)) (v_cals : Value) (h_cals : Sl A w v_cals cals) (steps : (List zk)) (v_steps : Value) (h_steps : Sl A w v_steps steps) (away : (List (Int × Bool))) (m_away : Nat) (m : Int) {L : List Ob} (hH : Hp B A w (obC b_r_ [v_r_0, v_r_1, v_r_2, v_r_3, Ii r_.now, v_r_4, v_r_5, .map (some m_r_0)] 58 :: o_4 v_r_3 r_.assigner.away :: obRM (κ := Int) (α := za) m_r_0 r_.work :: obSM (κ := Int) (α := Bool) m_away away :: L)) {r : Bool} (hm : jg r_ people cals steps away m = some r) : Ret prog 15 #[Pt b_r_, v_people, v_cals, v_steps, .map (some m_away), Ii m] w fun v w' => ∃ A1 : Nat → Prop, v = .bool r ∧ Hp B A1 w' (obC b_r_ [v_r_0, v_r_1, v_r_2, v_r_3, Ii r_.now, v_r_4, v_r_5, .map (some m_r_0)] 58 :: o_4 v_r_3 r_.assigner.away :: obRM (κ := Int) (α := za) m_r_0 r_.work :: obSM (κ := Int) (α := Bool) m_away away :: L) ∧ Tr Dw B A w A1 w' := by
 unfold jg at hm
 refine enter func15 rfl ntmps15 rfl ?_
 have hK : Tr Dw B A w A w := Tr.refl (Dw := Dw) hA
 refine Sr (As (To ?_))
 refine Sr (Mm (Mm ?_))
 replace hH := Hf 2 (Hf 2 (Hf 2 hH))
 obtain ⟨x20, hx20, hm⟩ := Bs hm
 refine Vc call6 (jT (Dw := Dw) w hB hA r_ b_r_ v_r_0 h_r_0 v_r_1 h_r_1 v_r_2 h_r_2 v_r_3 v_r_4 h_r_4 v_r_5 h_r_5 m_r_0 hH hx20) ?_
 rintro v21 w23 ⟨_, A24, rfl, hH25, ht26⟩
 obtain ⟨h_people, h_cals, h_steps, h_r_0, h_r_1, h_r_2, h_r_4, h_r_5, hK, hB, hA⟩ := U8 ht26 hK hB h_people h_cals h_steps h_r_0 h_r_1 h_r_2 h_r_4 h_r_5
 replace hH := hH25
 obtain ⟨x27, hx27, hm⟩ := Bs hm
 refine Vc call46 (zhM (Dw := Dw) w23 (A := fun _ => True) (fun _ _ => trivial) people v_people (Sl.any h_people) x20 v21 (Hp.any (α := zb) (e := 46) (v := v21) (l := x20) hH (i := 0) rfl) hx27) ?_
 rintro _ w30 ⟨v28, rfl, h29, hk31⟩
 obtain ⟨A32, ht33, hH34⟩ := Hp.addOwnd (Dw := Dw) hH hB hA hk31 h29
 obtain ⟨h_people, h_cals, h_steps, h_r_0, h_r_1, h_r_2, h_r_4, h_r_5, hK, hB, hA⟩ := U8 ht33 hK hB h_people h_cals h_steps h_r_0 h_r_1 h_r_2 h_r_4 h_r_5
 replace hH := hH34
 refine Mm (Vy (zD rfl rfl) (Vy (zD rfl rfl) (As (As (To ?_)))))
 refine zh (Sr (Mm (Vy (ZW rfl rfl) (Mm ?_))))
 refine ZP 6 (fun _ : Unit => [(0, Pt b_r_), (1, v_people), (2, v_cals), (3, v_steps), (4, .map (some m_away)), (5, Ii m), (13, v28), (34, .bool ((x27.2 != 0) || ((x27.1.length : Int) != (people.length : Int))))]) (fun _ w' => w30 = w') ?_ ?_
 ·simp only [List.take, List.drop]
  rcases Be (x27.2 != 0) with hc35 | hc35
  ·refine Gm hc35 (Gm hc35 (Gm hc35 (Gm hc35 (Gm hc35 (Vy (zF rfl hc35 rfl) ?_)))))
   exact zn fun a ha => ⟨(), ha.sub ⟨rfl, rfl, rfl, rfl, rfl, rfl, rfl, (by rw [hc35]; rfl), trivial⟩, rfl⟩
  refine Gf hc35 (Mm (Gf hc35 (Vy (zA (Hp.any (α := Int) (e := 3) (v := v28) (l := x27.1) hH (i := 0) rfl) rfl underlying26 rfl) (Gf hc35 (Mm (Gf hc35 (Vy (zA h_people rfl underlying22 rfl) (Gf hc35 (Vy (ZW rfl rfl) ?_)))))))))
  refine Vy (zG rfl hc35 rfl) ?_
  exact zn fun a ha => ⟨(), ha.sub ⟨rfl, rfl, rfl, rfl, rfl, rfl, rfl, (by rw [hc35]; rfl), trivial⟩, rfl⟩
 simp only [List.take, List.drop]
 rintro _ _ rfl
 refine To ?_
 refine Cc (fun hc37 => ?_) fun hc37 => ?_
 ·rw [if_pos hc37] at hm
  refine Sr (As (To ?_))
  obtain rfl := Oi hm
  replace hH := Hd 4 (Hd 4 (Hf 5 (Hf 5 (Hf 5 (Hf 5 hH)))))
  refine Rt (Res.one results15 rfl) ?_
  exact ⟨A32, rfl, hH, hK⟩
 rw [if_neg (nt hc37)] at hm
 refine Sk ?_
 refine zh (Sr (Mm (Vy (zA h_people rfl underlying22 rfl) (Mm (To ?_)))))
 have hn58 := Sl.le h_people
 obtain ⟨o38, ho38, hm⟩ := Bs hm
 refine zu (ι := (Unit × (Nat → Prop))) (fun ⟨s39, A45⟩ => []) (fun ⟨s39, A45⟩ => fun w' => o38 = .fin s39 ∧ Hp B A45 w' (o_3 v28 x27.1 :: o_46 v21 x20 :: obC b_r_ [v_r_0, v_r_1, v_r_2, v_r_3, Ii r_.now, v_r_4, v_r_5, .map (some m_r_0)] 58 :: o_4 v_r_3 r_.assigner.away :: obRM (κ := Int) (α := za) m_r_0 r_.work :: obSM (κ := Int) (α := Bool) m_away away :: L) ∧ Tr Dw B A32 w30 A45 w') ?_ ?_
 ·refine zl ?_
  refine zS ho38 (fun k41 _ a w' => ∃ i : (Nat → Prop), Has ⟨95, [], none⟩ a ([(0, Pt b_r_), (1, v_people), (2, v_cals), (3, v_steps), (4, .map (some m_away)), (5, Ii m), (13, v28), (35, v_people), (36, Ii (people.length : Int)), (37, Ii (k41 : Int))]) ∧ Hp B i w' (o_3 v28 x27.1 :: o_46 v21 x20 :: obC b_r_ [v_r_0, v_r_1, v_r_2, v_r_3, Ii r_.now, v_r_4, v_r_5, .map (some m_r_0)] 58 :: o_4 v_r_3 r_.assigner.away :: obRM (κ := Int) (α := za) m_r_0 r_.work :: obSM (κ := Int) (α := Bool) m_away away :: L) ∧ Tr Dw B A32 w30 i w') (fun a ha => ⟨A32, ha.sb, ⟨hH, Tr.refl (Dw := Dw) hA⟩⟩) ?_
  rintro K k41 _ a w48 ⟨A49, ha177, hH50, hr40⟩ hle54 K57 h56
  refine C_of ?_ ha177
  obtain ⟨h_people, h_cals, h_steps, h_r_0, h_r_1, h_r_2, h_r_4, h_r_5, hK, hB, hA⟩ := U8 hr40 hK hB h_people h_cals h_steps h_r_0 h_r_1 h_r_2 h_r_4 h_r_5
  replace hH := hH50
  refine Sr (Vy (zR rfl rfl) (To ?_))
  refine zh ?_
  refine Cc (fun hc59 => ?_) fun hc59 => ?_
  ·have hlt55 := zL hc59
   obtain ⟨x51, h52, h53⟩ := K57 hlt55
   refine Sk ?_
   refine zh ?_
   obtain ⟨o60, ho60, h52⟩ := Bs h52
   refine zu (ι := (Unit × (Nat → Prop))) (fun ⟨s61, A66⟩ => [(0, Pt b_r_), (1, v_people), (2, v_cals), (3, v_steps), (4, .map (some m_away)), (5, Ii m), (13, v28), (35, v_people), (36, Ii (people.length : Int)), (37, Ii (k41 : Int))]) (fun ⟨s61, A66⟩ => fun w' => o60 = .fin s61 ∧ Hp B A66 w' (o_3 v28 x27.1 :: o_46 v21 x20 :: obC b_r_ [v_r_0, v_r_1, v_r_2, v_r_3, Ii r_.now, v_r_4, v_r_5, .map (some m_r_0)] 58 :: o_4 v_r_3 r_.assigner.away :: obRM (κ := Int) (α := za) m_r_0 r_.work :: obSM (κ := Int) (α := Bool) m_away away :: L) ∧ Tr Dw B A49 w48 A66 w') ?_ ?_
   ·have hr62 : Tr Dw B A49 w48 A49 w48 := Tr.refl (Dw := Dw) hA
    refine zl (Sr (Mm ?_))
    obtain ⟨x68, hx68, ho60⟩ := Bs ho60
    refine zy h_people hx68 underlying22 sizeOf61 rfl rfl rfl ?_
    intro b69 o70 h71
    obtain ⟨v72, h74, h73⟩ := Zo h71
    refine Vy (zx h74 isAgg61 sizeOf61 rfl) ?_
    refine Zf zeroValue61 rfl ?_
    intro b75 w76 h77
    refine As ?_
    have h82 := Sl.oc h73
    refine Sn h77 sizeOf61 ?_
    intro w78 h79
    have hk84 := h79.kp (Dw := Dw)
    have h83 : El (α := zd) A49 w78 b75 0 x68 := h79.el hA ⟨[Ii x68.no], _, rfl, rfl, ⟨[Ii x68.capacity], _, rfl, rfl, ⟨[Ii x68.calendar], _, rfl, rfl, ⟨_, rfl, h73⟩⟩⟩⟩
    have ht85 := Kp.tr hk84 hA hB; replace hH := Hp.kp hH hk84; replace hr62 := Tt hr62 ht85
    obtain ⟨h_people, h_cals, h_steps, h_r_0, h_r_1, h_r_2, h_r_4, h_r_5, hK, hB, hA⟩ := U8 ht85 hK hB h_people h_cals h_steps h_r_0 h_r_1 h_r_2 h_r_4 h_r_5
    refine To ?_
    refine zh (zh ?_)
    refine ZR (Dw := Dw) zH (by kernel_rfl) ?_
    refine Qm (Qm ?_)
    obtain ⟨x86, hx86, ho60⟩ := Bs ho60
    refine Zd (α := Int) (e := 3) (v := v28) (l := x27.1) hH (i := 0) rfl hx86 underlying26 sizeOf3 rfl rfl rfl ?_
    intro b87 o88 h89 hl90
    refine Qi h89 isAgg3 (Qv (fun w' hw' => zR rfl rfl) (Qm ?_))
    obtain ⟨s92, hs92, ho60⟩ := Bs ho60
    refine jG 14 (fun _ : Unit => [(0, Pt b_r_), (1, v_people), (2, v_cals), (3, v_steps), (4, .map (some m_away)), (5, Ii m), (13, v28), (15, Ii (k41 : Int)), (16, Pt b75), (35, v_people), (36, Ii (people.length : Int)), (37, Ii (k41 : Int)), (61, .bool s92)]) (fun _ => True) ?_ ?_
    ·simp only [List.take, List.drop]
     rcases Be (decide (x86 < 0)) with hc91 | hc91
     ·rw [if_pos hc91] at hs92
      refine Qg hc91 (Qg hc91 (Qg hc91 (Qg hc91 (Qg hc91 ?_))))
      refine zdG rfl rfl rfl rfl rfl ?_
      refine zdG rfl rfl rfl rfl rfl ?_
      refine zdG rfl rfl rfl rfl rfl ?_
      refine zdG rfl rfl rfl rfl rfl ?_
      refine zdG rfl rfl rfl rfl rfl ?_
      refine zdG rfl rfl rfl rfl rfl ?_
      refine zdG rfl rfl rfl rfl rfl ?_
      refine Qg hc91 ?_
      refine VQ_y (fun _ _ => zF rfl hc91 rfl) rfl rfl rfl ?_
      obtain rfl := Oi hs92
      exact ZK fun a ha => ⟨(), ha.sb, trivial⟩
     rw [if_neg (nt hc91)] at hs92
     refine Qh hc91 (Qm (Qh hc91 ?_))
     have h93 := ZB h83
     refine Qf underlying61 rfl sizeOf3 (Qh hc91 (Qi h93 isAgg3 (Qh hc91 (Qv (fun w' hw' => zgF (κ := Int) (α := Bool) (z := false) (l := away) (Hp.kp (Dw := Dw) hH hw') (i := 5) rfl underlying32 underlying3 zeroValue4 rfl rfl rfl) (Qh hc91 (Qm ?_))))))
     obtain ⟨s95, hs95, hs92⟩ := Bs hs92
     refine jG 8 (fun _ : Unit => [(0, Pt b_r_), (1, v_people), (2, v_cals), (3, v_steps), (4, .map (some m_away)), (5, Ii m), (13, v28), (15, Ii (k41 : Int)), (16, Pt b75), (35, v_people), (36, Ii (people.length : Int)), (37, Ii (k41 : Int)), (47, .bool (decide (x86 < 0))), (60, .bool s95)]) (fun _ => True) ?_ ?_
     ·simp only [List.take, List.drop]
      rcases Be (((zw away x68.no).getD false)) with hc94 | hc94
      ·rw [if_pos hc94] at hs95
       refine Qh hc94 (Qm (Qh hc94 (Qm (Qh hc94 ?_))))
       refine Zd (α := Int) (e := 3) (v := v28) (l := x27.1) hH (i := 0) rfl hx86 underlying26 sizeOf3 rfl rfl rfl ?_
       intro b96 o97 h98 hl99
       refine Qh hc94 (Qi h98 isAgg3 (Qh hc94 ?_))
       have h100 := qN h83
       refine Qf underlying61 rfl sizeOf3 (Qh hc94 (Qi h100 isAgg3 (Qh hc94 (Qv (fun w' hw' => ZW rfl rfl) (Qh hc91 ?_)))))
       refine VQ_y (fun _ _ => zF rfl hc94 rfl) rfl rfl rfl ?_
       obtain rfl := Oi hs95
       exact ZK fun a ha => ⟨(), ha.sb, trivial⟩
      rw [if_neg (nt hc94)] at hs95
      refine Qg hc94 (Qg hc94 (Qg hc94 (Qg hc94 (Qg hc94 (Qg hc94 (Qg hc94 (Qh hc91 ?_)))))))
      refine VQ_y (fun _ _ => zG rfl hc94 rfl) rfl rfl rfl ?_
      obtain rfl := Oi hs95
      exact ZK fun a ha => ⟨(), ha.sb, trivial⟩
     simp only [List.take, List.drop]
     rintro _ _
     refine VQ_y (fun _ _ => zG rfl hc91 rfl) rfl rfl rfl ?_
     obtain rfl := Oi hs92
     exact ZK fun a ha => ⟨(), ha.sb, trivial⟩
    simp only [List.take, List.drop]
    rintro _ _
    refine jR (fun _ _ => rfl) (fun w101 hk102 => ?_)
    have ht103 := Kp.tr hk102 hA hB; replace hH := Hp.kp hH hk102; replace h83 := El.tr h83 ht103; replace hr62 := Tt hr62 ht103
    obtain ⟨h_people, h_cals, h_steps, h_r_0, h_r_1, h_r_2, h_r_4, h_r_5, hK, hB, hA⟩ := U8 ht103 hK hB h_people h_cals h_steps h_r_0 h_r_1 h_r_2 h_r_4 h_r_5
    refine Cc (fun hc104 => ?_) fun hc104 => ?_
    ·rw [if_pos hc104] at ho60
     refine Sr (As (To ?_))
     obtain rfl := Oi ho60
     rw [Lp.andThen_rt] at h52
     obtain rfl := Oi h52
     obtain rfl := (h53 : Lp.rt _ = _)
     rw [Lp.andThen_rt] at hm
     obtain rfl := Oi hm
     replace hH := Hd 4 (Hd 4 (Hf 5 (Hf 5 (Hf 5 (Hf 5 hH)))))
     refine Rt (Res.one results15 rfl) ?_
     exact ⟨A49, rfl, hH, hK⟩
    rw [if_neg (nt hc104)] at ho60
    refine Sk ?_
    refine Sr (Mm ?_)
    replace hH := Hf 4 (Hf 4 (Hf 4 hH))
    obtain ⟨x105, hx105, ho60⟩ := Bs ho60
    refine Vc call47 (zcM (Dw := Dw) w101 hB hA r_ b_r_ v_r_0 h_r_0 v_r_1 h_r_1 v_r_2 h_r_2 v_r_3 v_r_4 h_r_4 v_r_5 h_r_5 m_r_0 hH hx105) ?_
    rintro v106 w108 ⟨_, A109, rfl, h107, hH110, ht111⟩
    replace h83 := El.tr h83 ht111; replace hr62 := Tt hr62 ht111
    obtain ⟨h_people, h_cals, h_steps, hK, hB, hA⟩ := U3 ht111 hK hB h_people h_cals h_steps
    replace hH := hH110
    refine Vy (zA h107 rfl underlying25 rfl) (Mm (To ?_))
    have hn132 := Sl.le h107
    obtain ⟨o112, ho112, ho60⟩ := Bs ho60
    refine zu (ι := (Unit × (Nat → Prop))) (fun ⟨s113, A119⟩ => [(0, Pt b_r_), (1, v_people), (2, v_cals), (3, v_steps), (4, .map (some m_away)), (5, Ii m), (13, v28), (35, v_people), (36, Ii (people.length : Int)), (37, Ii (k41 : Int))]) (fun ⟨s113, A119⟩ => fun w' => o112 = .fin s113 ∧ Hp B A119 w' (obC b_r_ [v_r_0, v_r_1, v_r_2, v_r_3, Ii r_.now, v_r_4, v_r_5, .map (some m_r_0)] 58 :: o_4 v_r_3 r_.assigner.away :: obRM (κ := Int) (α := za) m_r_0 r_.work :: o_3 v28 x27.1 :: o_46 v21 x20 :: obSM (κ := Int) (α := Bool) m_away away :: L) ∧ Tr Dw B A109 w108 A119 w') ?_ ?_
    ·refine zl ?_
     refine zS ho112 (fun k115 _ a w' => ∃ i : (Nat → Prop), Has ⟨95, [], none⟩ a ([(0, Pt b_r_), (1, v_people), (2, v_cals), (3, v_steps), (4, .map (some m_away)), (5, Ii m), (13, v28), (15, Ii (k41 : Int)), (16, Pt b75), (35, v_people), (36, Ii (people.length : Int)), (37, Ii (k41 : Int)), (63, v106), (64, Ii (x105.length : Int)), (65, Ii (k115 : Int))]) ∧ Hp B i w' (obC b_r_ [v_r_0, v_r_1, v_r_2, v_r_3, Ii r_.now, v_r_4, v_r_5, .map (some m_r_0)] 58 :: o_4 v_r_3 r_.assigner.away :: obRM (κ := Int) (α := za) m_r_0 r_.work :: o_3 v28 x27.1 :: o_46 v21 x20 :: obSM (κ := Int) (α := Bool) m_away away :: L) ∧ Tr Dw B A109 w108 i w') (fun a ha => ⟨A109, ha.sb, ⟨hH, Tr.refl (Dw := Dw) hA⟩⟩) ?_
     rintro K k115 _ a w122 ⟨A123, ha173, hH124, hr114⟩ hle128 K131 h130
     refine C_of ?_ ha173
     replace h83 := El.tr h83 hr114
     obtain ⟨h_people, h_cals, h_steps, h107, hK, hB, hA⟩ := U4 hr114 hK hB h_people h_cals h_steps h107
     replace hH := hH124
     refine Sr (Vy (zR rfl rfl) (To ?_))
     refine zh ?_
     refine Cc (fun hc133 => ?_) fun hc133 => ?_
     ·have hlt129 := zL hc133
      obtain ⟨x125, h126, h127⟩ := K131 hlt129
      refine Sk ?_
      refine zh (zl (Sr ?_))
      obtain ⟨x134, hx134, h126⟩ := Bs h126
      refine zy h107 hx134 underlying25 sizeOf38 rfl rfl rfl ?_
      intro b135 o136 h137
      obtain ⟨v138, h140, h139⟩ := Zt h137
      refine Vy (zx h140 isAgg38 sizeOf38 rfl) ?_
      refine Zf zeroValue38 rfl ?_
      intro b141 w142 h143
      have h148 := Sl.oc h139
      refine Sn h143 sizeOf38 ?_
      intro w144 h145
      have hk150 := h145.kp (Dw := Dw)
      have h149 : El (α := za) A123 w144 b141 0 x134 := h145.el hA ⟨[Ii x134.ticket], _, rfl, rfl, ⟨[Ii x134.weight], _, rfl, rfl, ⟨[Ii x134.urgency], _, rfl, rfl, ⟨[Ii x134.since], _, rfl, rfl, ⟨[Ii x134.former], _, rfl, rfl, ⟨_, rfl, h139⟩⟩⟩⟩⟩⟩
      have ht151 := Kp.tr hk150 hA hB; replace hH := Hp.kp hH hk150; replace h83 := El.tr h83 ht151; replace hr114 := Tt hr114 ht151
      obtain ⟨h_people, h_cals, h_steps, hK, hB, hA⟩ := U3 ht151 hK hB h_people h_cals h_steps
      refine To ?_
      refine zh ?_
      refine ZR (Dw := Dw) zH (by kernel_rfl) ?_
      refine Qm ?_
      have h152 := ZB h83
      refine Qf underlying61 rfl sizeOf3 (Qi h152 isAgg3 (Qv (fun w' hw' => zgF (κ := Int) (α := Bool) (z := false) (l := away) (Hp.kp (Dw := Dw) hH hw') (i := 5) rfl underlying32 underlying3 zeroValue4 rfl rfl rfl) (Qv (fun w' hw' => Zs rfl) (Qm ?_))))
      obtain ⟨s154, hs154, h126⟩ := Bs h126
      refine jG 8 (fun _ : Unit => [(0, Pt b_r_), (1, v_people), (2, v_cals), (3, v_steps), (4, .map (some m_away)), (5, Ii m), (13, v28), (15, Ii (k41 : Int)), (16, Pt b75), (18, Pt b141), (35, v_people), (36, Ii (people.length : Int)), (37, Ii (k41 : Int)), (63, v106), (64, Ii (x105.length : Int)), (65, Ii (k115 : Int)), (82, .bool s154)]) (fun _ => True) ?_ ?_
      ·simp only [List.take, List.drop]
       rcases Be (!((zw away x68.no).getD false)) with hc153 | hc153
       ·rw [if_pos hc153] at hs154
        refine Qh hc153 (Qm (Qh hc153 (Qm (Qh hc153 ?_))))
        refine Zd (α := Int) (e := 3) (v := v28) (l := x27.1) hH (i := 3) rfl hx86 underlying26 sizeOf3 rfl rfl rfl ?_
        intro b155 o156 h157 hl158
        refine Qh hc153 (Qi h157 isAgg3 (Qh hc153 ?_))
        have h159 := Jc h149
        refine Qf underlying38 rfl sizeOf3 (Qh hc153 (Qi h159 isAgg3 (Qh hc153 (Qv (fun w' hw' => Qz rfl rfl) ?_))))
        refine VQ_y (fun _ _ => zF rfl hc153 rfl) rfl rfl rfl ?_
        obtain rfl := Oi hs154
        exact ZK fun a ha => ⟨(), ha.sb, trivial⟩
       rw [if_neg (nt hc153)] at hs154
       refine Qg hc153 (Qg hc153 (Qg hc153 (Qg hc153 (Qg hc153 (Qg hc153 (Qg hc153 ?_))))))
       refine VQ_y (fun _ _ => zG rfl hc153 rfl) rfl rfl rfl ?_
       obtain rfl := Oi hs154
       exact ZK fun a ha => ⟨(), ha.sb, trivial⟩
      simp only [List.take, List.drop]
      rintro _ _
      refine Qm ?_
      obtain ⟨s161, hs161, h126⟩ := Bs h126
      refine jG 9 (fun _ : Unit => [(0, Pt b_r_), (1, v_people), (2, v_cals), (3, v_steps), (4, .map (some m_away)), (5, Ii m), (13, v28), (15, Ii (k41 : Int)), (16, Pt b75), (35, v_people), (36, Ii (people.length : Int)), (37, Ii (k41 : Int)), (63, v106), (64, Ii (x105.length : Int)), (65, Ii (k115 : Int)), (92, .bool s161)]) (fun _ => True) ?_ ?_
      ·simp only [List.take, List.drop]
       rcases Be (s154) with hc160 | hc160
       ·rw [if_pos hc160] at hs161
        refine Qh hc160 (Qm (Qh hc160 (Qm (Qh hc160 (Qm (Qh hc160 ?_))))))
        obtain ⟨v162, h164, h163⟩ := Zt h149
        refine Qv (fun w' hw' => zx (At.kp h164 hw' h149.2.1) isAgg38 sizeOf38 rfl) (Qh hc160 ?_)
        have h165 := ZB h83
        refine Qf underlying61 rfl sizeOf3 (Qh hc160 (Qi h165 isAgg3 (Qh hc160 (Qm (Qh hc160 ?_)))))
        obtain ⟨x166, hx166, hs161⟩ := Bs hs161
        refine Qo (.bool x166) call14 rfl rfl rfl rfl (fun w' hw' => (JR (Dw := Dw) w' (fun b hb => hA b (Nat.le_trans hw'.size hb)) people v_people (Sl.kp h_people hw') cals v_cals (Sl.kp h_cals hw') steps v_steps (Sl.kp h_steps hw') x134 v162 (Sl.kp h163 hw') x68.no m hx166).mono (fun _ _ h => ⟨h.1, Kp.trans (Dw := Dw) hw' h.2⟩)) ?_
        refine VQ_y (fun _ _ => zF rfl hc160 rfl) rfl rfl rfl ?_
        obtain rfl := Oi hs161
        exact ZK fun a ha => ⟨(), ha.sb, trivial⟩
       rw [if_neg (nt hc160)] at hs161
       refine Qg hc160 (Qg hc160 (Qg hc160 (Qg hc160 (Qg hc160 (Qg hc160 (Qg hc160 (Qg hc160 ?_)))))))
       refine VQ_y (fun _ _ => zG rfl hc160 rfl) rfl rfl rfl ?_
       obtain rfl := Oi hs161
       exact ZK fun a ha => ⟨(), ha.sb, trivial⟩
      simp only [List.take, List.drop]
      rintro _ _
      refine jR (fun _ _ => rfl) (fun w167 hk168 => ?_)
      have ht169 := Kp.tr hk168 hA hB; replace hH := Hp.kp hH hk168; replace hK := Tt hK ht169; replace hr114 := Tt hr114 ht169
      refine Cc (fun hc170 => ?_) fun hc170 => ?_
      ·rw [if_pos hc170] at h126
       refine Sr (As (To ?_))
       obtain rfl := Oi h126
       obtain rfl := (h127 : Lp.rt _ = _)
       rw [Lp.andThen_rt] at ho60
       obtain rfl := Oi ho60
       rw [Lp.andThen_rt] at h52
       obtain rfl := Oi h52
       obtain rfl := (h53 : Lp.rt _ = _)
       rw [Lp.andThen_rt] at hm
       obtain rfl := Oi hm
       replace hH := Hd 4 (Hd 4 (Hf 3 (Hf 3 (Hf 3 (Hf 5 hH)))))
       refine Rt (Res.one results15 rfl) ?_
       exact ⟨A123, rfl, hH, hK⟩
      rw [if_neg (nt hc170)] at h126
      refine Sk ?_
      refine zo (Vy (zN rfl rfl) (Mm ?_))
      obtain rfl := Oi h126
      refine zn (fun a ha171 => ?_)
      exact ⟨(), hlt129, h127, ⟨A123, ha171.sub ⟨rfl, rfl, rfl, rfl, rfl, rfl, rfl, rfl, rfl, rfl, rfl, rfl, rfl, rfl, Ws hlt129 hn132, trivial⟩, ⟨hH, hr114⟩⟩⟩
     refine zQ (fun a ha172 => ?_)
     exact ⟨((), A123), ha172.sb, ⟨(h130 (zK hle128 hc133)).symm, hH, hr114⟩⟩
    rintro ⟨s113, A119⟩ w116 ⟨rfl, hH120, hk117⟩ a ha118
    rw [Lp.andThen_fin] at ho60
    replace hr62 := Tr.trans hr62 hk117; replace hA := hk117.new; replace hH := hH120
    obtain rfl := Oi ho60
    replace hH := Hf 5 (Hf 5 (Hf 3 (Hf 3 (Hf 3 (Hf 5 hH)))))
    exact ⟨((), A119), ha118.sb, ⟨rfl, hH, hr62⟩⟩
   rintro ⟨s61, A66⟩ w63 ⟨rfl, hH67, hk64⟩ a ha65
   rw [Lp.andThen_fin] at h52
   replace hr40 := Tr.trans hr40 hk64; replace hA := hk64.new; replace hH := hH67
   refine C_at (n := ⟨95, [], none⟩) (fun _ _ => rfl) ?_ ha65
   refine zo (Vy (zN rfl rfl) (Mm ?_))
   obtain rfl := Oi h52
   refine zn (fun a ha175 => ?_)
   exact ⟨(), hlt55, h53, ⟨A66, ha175.sub ⟨rfl, rfl, rfl, rfl, rfl, rfl, rfl, rfl, rfl, Ws hlt55 hn58, trivial⟩, ⟨hH, hr40⟩⟩⟩
  refine zQ (fun a ha176 => ?_)
  exact ⟨((), A49), ha176.sub trivial, ⟨(h56 (zK hle54 hc59)).symm, hH, hr40⟩⟩
 rintro ⟨s39, A45⟩ w42 ⟨rfl, hH46, hk43⟩ a ha44
 rw [Lp.andThen_fin] at hm
 replace hK := Tr.trans hK hk43; replace hA := hk43.new; replace hH := hH46
 refine C_at (n := ⟨95, [], none⟩) (fun _ _ => rfl) ?_ ha44
 refine Sr (As (To ?_))
 obtain rfl := Oi hm
 replace hH := Hd 4 (Hd 4 (Hf 5 (Hf 5 (Hf 5 (Hf 5 hH)))))
 refine Rt (Res.one results15 rfl) ?_
 exact ⟨A45, rfl, hH, hK⟩
theorem zed (w : World) {A : Nat → Prop} (hA : ∀ b, w.heap.size ≤ b → A b) (hT : Fz zbc A w) (people : (List zd)) (v_people : Value) (h_people : Sl A w v_people people) (cals : (List zg)) (v_cals : Value) (h_cals : Sl A w v_cals cals) (steps : (List zk)) (v_steps : Value) (h_steps : Sl A w v_steps steps) (work : (List za)) (v_work : Value) (h_work : Sl A w v_work work) (script : (List Int)) (v_script : Value) (h_script : Sl A w v_script script) {r : Bool} (hm : JG people cals steps work script = some r) : Ret prog 3 #[v_people, v_cals, v_steps, v_work, v_script] w fun v w' => v = .bool r ∧ Kp Dw w w' := by
 unfold JG at hm
 refine enter func3 rfl ntmps3 rfl ?_
 have hA0 := hA
 obtain ⟨hB, hK, hH⟩ := St (Dw := Dw) hA
 refine Sr (As (To ?_))
 refine zh (Sr ?_)
 obtain ⟨x11, hx11, hm⟩ := Bs hm
 refine Vc call4 (zdz (Dw := Dw) w hA (Fz.tr (Dw := Dw) hT hK) hx11) ?_
 rintro _ w12 ⟨rfl, hk13⟩
 have ht14 := Kp.tr hk13 hA hB; replace hH := Hp.kp hH hk13
 obtain ⟨h_people, h_cals, h_steps, h_work, h_script, hK, hB, hA⟩ := U5 ht14 hK hB h_people h_cals h_steps h_work h_script
 refine Vy (Zs rfl) (To ?_)
 refine Cc (fun hc15 => ?_) fun hc15 => ?_
 ·rw [if_pos hc15] at hm
  refine Sr (As (To ?_))
  obtain rfl := Oi hm
  refine Rt (Res.one results3 rfl) ?_
  exact ⟨rfl, hK.kp⟩
 rw [if_neg (nt hc15)] at hm
 refine Sk ?_
 refine Sr (Mm (Mm (Mm ?_)))
 obtain ⟨x16, hx16, hm⟩ := Bs hm
 refine Vc call5 (zeK (Dw := Dw) w12 hB hA people v_people h_people cals v_cals h_cals steps v_steps h_steps hH hx16) ?_
 rintro _ w17 (⟨A18, he21, rfl, hH19, ht20⟩ | ⟨R22, b23, v25, v27, v29, v31, v33, v35, m37, A18, he24, rfl, h26, h28, h30, h34, h36, hH19, ht20⟩)
 ·rw [he21] at hm
  dsimp only at hm
  replace hK := Tt hK ht20; replace hH := hH19
  refine Mm (Vy (zD rfl rfl) (Vy (zD rfl rfl) (As (As (To ?_)))))
  refine zh (Sr (Mm (Vy (ZW rfl rfl) (Mm ?_))))
  refine ZP 3 (fun _ : Unit => [(0, v_people), (1, v_cals), (2, v_steps), (3, v_work), (4, v_script), (11, .pointer none), (37, .bool true)]) (fun _ w' => w17 = w') ?_ ?_
  ·simp only [List.take, List.drop]
   rcases Be (x16.2 != 0) with hc38 | hc38
   ·refine Gm hc38 (Gm hc38 (Vy (zF rfl hc38 rfl) ?_))
    exact zn fun a ha => ⟨(), ha.sb, rfl⟩
   refine Gf hc38 (Mm (Gf hc38 (Vy (zgG rfl rfl underlying28) (Vy (zG rfl hc38 rfl) ?_))))
   exact zn fun a ha => ⟨(), ha.sb, rfl⟩
  simp only [List.take, List.drop]
  rintro _ _ rfl
  refine To ?_
  refine Cc (fun hc => ?_) fun hc => ?_
  ·refine Sr (Mm (Vy (zgG rfl rfl underlying28) (As (To ?_))))
   obtain rfl := Oi hm
   refine Rt (Res.one results3 rfl) ?_
   exact ⟨rfl, hK.kp⟩
  exact absurd hc (by decide)
 rw [he24] at hm
 dsimp only at hm
 obtain ⟨h_people, h_cals, h_steps, h_work, h_script, hK, hB, hA⟩ := U5 ht20 hK hB h_people h_cals h_steps h_work h_script
 replace hH := hH19
 refine Mm (Vy (zD rfl rfl) (Vy (zD rfl rfl) (As (As (To ?_)))))
 refine zh (Sr (Mm (Vy (ZW rfl rfl) (Mm ?_))))
 refine ZP 3 (fun _ : Unit => [(0, v_people), (1, v_cals), (2, v_steps), (3, v_work), (4, v_script), (11, Pt b23), (37, .bool ((x16.2 != 0) || false))]) (fun _ w' => w17 = w') ?_ ?_
 ·simp only [List.take, List.drop]
  rcases Be (x16.2 != 0) with hc40 | hc40
  ·refine Gm hc40 (Gm hc40 (Vy (zF rfl hc40 rfl) ?_))
   exact zn fun a ha => ⟨(), ha.sub ⟨rfl, rfl, rfl, rfl, rfl, rfl, (by rw [hc40]; rfl), trivial⟩, rfl⟩
  refine Gf hc40 (Mm (Gf hc40 (Vy (zgM rfl rfl underlying28) (Vy (zG rfl hc40 rfl) ?_))))
  exact zn fun a ha => ⟨(), ha.sub ⟨rfl, rfl, rfl, rfl, rfl, rfl, (by rw [hc40]; rfl), trivial⟩, rfl⟩
 simp only [List.take, List.drop]
 rintro _ _ rfl
 refine To ?_
 refine Cc (fun hc42 => ?_) fun hc42 => ?_
 ·rw [if_pos hc42] at hm
  refine Sr (Mm (Vy (zgM rfl rfl underlying28) (As (To ?_))))
  obtain rfl := Oi hm
  refine Rt (Res.one results3 rfl) ?_
  exact ⟨rfl, hK.kp⟩
 rw [if_neg (nt hc42)] at hm
 refine Sk ?_
 refine Sr ?_
 refine zjj (Dw := Dw) (B := w.heap.size) Int Bool hH hB hA rfl ?_
 intro b43 w44 A45 hH46 ht47
 obtain ⟨h_people, h_cals, h_steps, h_work, h_script, h26, h28, h30, h34, h36, hK, hB, hA⟩ := U10 ht47 hK hB h_people h_cals h_steps h_work h_script h26 h28 h30 h34 h36
 replace hH := hH46
 refine As (To ?_)
 refine Sr ?_
 refine zfv (Dw := Dw) (B := w.heap.size) Int za hH hB hA rfl ?_
 intro b48 w49 A50 hH51 ht52
 obtain ⟨h_people, h_cals, h_steps, h_work, h_script, h26, h28, h30, h34, h36, hK, hB, hA⟩ := U10 ht52 hK hB h_people h_cals h_steps h_work h_script h26 h28 h30 h34 h36
 replace hH := hH51
 refine As (To ?_)
 refine Sr (As (To ?_))
 refine zh ?_
 obtain ⟨o53, ho53, hm⟩ := Bs hm
 refine zu (ι := (((List Int) × Int × (List (Int × za)) × (List (Int × Bool)) × ze) × Value × Value × Value × Value × Value × Value × Value × (Nat → Prop))) (fun ⟨s54, v60, v62, v64, v66, v68, v70, v72, A75⟩ => []) (fun ⟨s54, v60, v62, v64, v66, v68, v70, v72, A75⟩ => fun w' => o53 = .fin s54 ∧ Sl A75 w' v60 s54.1 ∧ Sl A75 w' v62 s54.2.2.2.2.assigner.people ∧ Sl A75 w' v64 s54.2.2.2.2.assigner.cals ∧ Sl A75 w' v66 s54.2.2.2.2.assigner.steps ∧ Sl A75 w' v70 s54.2.2.2.2.waiting ∧ Sl A75 w' v72 s54.2.2.2.2.held ∧ Hp w.heap.size A75 w' (obRM (κ := Int) (α := za) b48 s54.2.2.1 :: obSM (κ := Int) (α := Bool) b43 s54.2.2.2.1 :: obC b23 [v62, v64, v66, v68, Ii s54.2.2.2.2.now, v70, v72, .map (some m37)] 58 :: o_4 v68 s54.2.2.2.2.assigner.away :: obRM (κ := Int) (α := za) m37 s54.2.2.2.2.work :: []) ∧ Tr Dw w.heap.size A50 w49 A75 w') ?_ ?_
 ·refine zl ?_
  refine zbd ho53 (fun s77 a w' => ∃ i : (Value × Value × Value × Value × Value × Value × Value × (Nat → Prop)), Has ⟨192, [], none⟩ a ([(0, v_people), (1, v_cals), (2, v_steps), (3, v_work), (4, i.1), (11, Pt b23), (13, .map (some b43)), (14, .map (some b48)), (15, Ii s77.2.1)]) ∧ Sl i.2.2.2.2.2.2.2 w' i.1 s77.1 ∧ Sl i.2.2.2.2.2.2.2 w' i.2.1 s77.2.2.2.2.assigner.people ∧ Sl i.2.2.2.2.2.2.2 w' i.2.2.1 s77.2.2.2.2.assigner.cals ∧ Sl i.2.2.2.2.2.2.2 w' i.2.2.2.1 s77.2.2.2.2.assigner.steps ∧ Sl i.2.2.2.2.2.2.2 w' i.2.2.2.2.2.1 s77.2.2.2.2.waiting ∧ Sl i.2.2.2.2.2.2.2 w' i.2.2.2.2.2.2.1 s77.2.2.2.2.held ∧ Hp w.heap.size i.2.2.2.2.2.2.2 w' (obRM (κ := Int) (α := za) b48 s77.2.2.1 :: obSM (κ := Int) (α := Bool) b43 s77.2.2.2.1 :: obC b23 [i.2.1, i.2.2.1, i.2.2.2.1, i.2.2.2.2.1, Ii s77.2.2.2.2.now, i.2.2.2.2.2.1, i.2.2.2.2.2.2.1, .map (some m37)] 58 :: o_4 i.2.2.2.2.1 s77.2.2.2.2.assigner.away :: obRM (κ := Int) (α := za) m37 s77.2.2.2.2.work :: []) ∧ Tr Dw w.heap.size A50 w49 i.2.2.2.2.2.2.2 w') (fun a ha => ⟨(v_script, v25, v27, v29, v31, v33, v35, A50), ha.sb, ⟨h_script, h26, h28, h30, h34, h36, hH, Tr.refl (Dw := Dw) hA⟩⟩) ?_
  rintro K s77 a w78 ⟨⟨v79, v81, v83, v85, v87, v89, v91, A94⟩, ha615, h80, h82, h84, h86, h90, h92, hH95, hr55⟩ K102
  refine C_of ?_ ha615
  obtain ⟨h_people, h_cals, h_steps, h_work, hK, hB, hA⟩ := U4 hr55 hK hB h_people h_cals h_steps h_work
  replace hH := hH95
  obtain ⟨x96, h97, h98⟩ := K102
  refine zh (Sr (Mm (Vy (zA h80 rfl underlying26 rfl) (Vy (Qz rfl rfl) (To ?_)))))
  refine Cc (fun hc103 => ?_) fun hc103 => ?_
  ·rw [if_pos hc103] at h97
   refine Sk ?_
   refine zh ?_
   obtain ⟨o104, ho104, h97⟩ := Bs h97
   refine zu (ι := ((Int × (List (Int × za)) × (List (Int × Bool)) × ze) × Value × Value × Value × Value × Value × Value × (Nat → Prop))) (fun ⟨s105, v107, v109, v111, v113, v115, v117, A123⟩ => [(0, v_people), (1, v_cals), (2, v_steps), (3, v_work), (4, v79), (11, Pt b23), (13, .map (some b43)), (14, .map (some b48)), (15, Ii s105.1)]) (fun ⟨s105, v107, v109, v111, v113, v115, v117, A123⟩ => fun w' => o104 = .fin s105 ∧ Sl A123 w' v107 s105.2.2.2.assigner.people ∧ Sl A123 w' v109 s105.2.2.2.assigner.cals ∧ Sl A123 w' v111 s105.2.2.2.assigner.steps ∧ Sl A123 w' v115 s105.2.2.2.waiting ∧ Sl A123 w' v117 s105.2.2.2.held ∧ Hp w.heap.size A123 w' (obRM (κ := Int) (α := za) b48 s105.2.1 :: obSM (κ := Int) (α := Bool) b43 s105.2.2.1 :: obC b23 [v107, v109, v111, v113, Ii s105.2.2.2.now, v115, v117, .map (some m37)] 58 :: o_4 v113 s105.2.2.2.assigner.away :: obRM (κ := Int) (α := za) m37 s105.2.2.2.work :: []) ∧ Tr Dw w.heap.size A94 w78 A123 w') ?_ ?_
   ·have hr106 : Tr Dw w.heap.size A94 w78 A94 w78 := Tr.refl (Dw := Dw) hA
    refine zl (zh (Sr (Mm ?_)))
    obtain ⟨x125, hx125, ho104⟩ := Bs ho104
    refine zy h80 hx125 underlying26 sizeOf3 rfl rfl rfl ?_
    intro b126 o127 h128
    refine Li h128 isAgg3 (Vy (zR rfl rfl) (Mm ?_))
    obtain ⟨s130, hs130, ho104⟩ := Bs ho104
    refine ZP 7 (fun _ : Unit => [(0, v_people), (1, v_cals), (2, v_steps), (3, v_work), (4, v79), (11, Pt b23), (13, .map (some b43)), (14, .map (some b48)), (15, Ii s77.2.1), (58, .bool s130)]) (fun _ w' => w78 = w') ?_ ?_
    ·simp only [List.take, List.drop]
     rcases Be (decide (x125 < 0)) with hc129 | hc129
     ·rw [if_pos hc129] at hs130
      refine Gm hc129 (Gm hc129 (Gm hc129 (Gm hc129 (Gm hc129 (Gm hc129 (Vy (zF rfl hc129 rfl) ?_))))))
      obtain rfl := Oi hs130
      exact zn fun a ha => ⟨(), ha.sb, rfl⟩
     rw [if_neg (nt hc129)] at hs130
     refine Gf hc129 (Mm (Gf hc129 ?_))
     refine zy h80 hx125 underlying26 sizeOf3 rfl rfl rfl ?_
     intro b131 o132 h133
     refine Gf hc129 (Li h133 isAgg3 (Gf hc129 (Mm (Gf hc129 (Vy (Qw rfl rfl) (Gf hc129 (Vy (qz rfl rfl) (Vy (zG rfl hc129 rfl) ?_))))))))
     obtain rfl := Oi hs130
     exact zn fun a ha => ⟨(), ha.sb, rfl⟩
    simp only [List.take, List.drop]
    rintro _ _ rfl
    refine To ?_
    refine Cc (fun hc134 => ?_) fun hc134 => ?_
    ·rw [if_pos hc134] at ho104
     refine Sr (As (To ?_))
     obtain rfl := Oi ho104
     rw [Lp.andThen_rt] at h97
     obtain rfl := Oi h97
     obtain rfl := (h98 : Lp.rt _ = _)
     rw [Lp.andThen_rt] at hm
     obtain rfl := Oi hm
     refine Rt (Res.one results3 rfl) ?_
     exact ⟨rfl, hK.kp⟩
    rw [if_neg (nt hc134)] at ho104
    refine Sk ?_
    refine Sr (Mm (Mm ?_))
    refine zy h80 hx125 underlying26 sizeOf3 rfl rfl rfl ?_
    intro b135 o136 h137
    refine Li h137 isAgg3 (Vy (zN rfl rfl) (As (To ?_)))
    refine Sr (Mm ?_)
    replace hH := Hf 4 (Hf 4 (Hf 4 hH))
    obtain ⟨x138, hx138, ho104⟩ := Bs ho104
    refine Vc call6 (jT (Dw := Dw) w78 hB hA s77.2.2.2.2 b23 v81 h82 v83 h84 v85 h86 v87 v89 h90 v91 h92 m37 hH hx138) ?_
    rintro v139 w141 ⟨_, A142, rfl, hH143, ht144⟩
    replace hr106 := Tt hr106 ht144
    obtain ⟨h_people, h_cals, h_steps, h_work, h80, h82, h84, h86, h90, h92, hK, hB, hA⟩ := U10 ht144 hK hB h_people h_cals h_steps h_work h80 h82 h84 h86 h90 h92
    replace hH := hH143
    refine As (To ?_)
    refine Sr (As (To ?_))
    refine Sr (Mm ?_)
    obtain ⟨x145, hx145, ho104⟩ := Bs ho104
    refine zy h80 hx145 underlying26 sizeOf3 rfl rfl rfl ?_
    intro b146 o147 h148
    refine Li h148 isAgg3 (As (To ?_))
    refine zh (Sr (Mm ?_))
    obtain ⟨x149, hx149, ho104⟩ := Bs ho104
    refine zy h80 hx149 underlying26 sizeOf3 rfl rfl rfl ?_
    intro b150 o151 h152
    refine Li h152 isAgg3 ?_
    refine Vy (zhe (by rw [rem, if_neg (by decide)]) rfl rfl) (Vy (zN rfl rfl) ?_)
    refine Vy (zhe (by rw [rem, if_neg (by decide)]) rfl rfl) (As (To ?_))
    refine Sr (Mm (To ?_))
    refine zl (Sr (Vy (ql rfl rfl) (As (To ?_))))
    refine Cc (fun hc153 => ?_) fun hc153 => ?_
    ·rw [if_pos hc153] at ho104
     refine zh (Sr (Mm ?_))
     obtain ⟨x154, hx154, ho104⟩ := Bs ho104
     refine zy h80 hx154 underlying26 sizeOf3 rfl rfl rfl ?_
     intro b155 o156 h157
     refine Li h157 isAgg3 (Vy (zR rfl rfl) (Mm ?_))
     obtain ⟨s159, hs159, ho104⟩ := Bs ho104
     refine ZP 7 (fun _ : Unit => [(0, v_people), (1, v_cals), (2, v_steps), (3, v_work), (4, v79), (11, Pt b23), (13, .map (some b43)), (14, .map (some b48)), (15, Ii (w64 (s77.2.1 + x125))), (16, v139), (95, .bool s159)]) (fun _ w' => w141 = w') ?_ ?_
     ·simp only [List.take, List.drop]
      rcases Be (decide (x154 < 0)) with hc158 | hc158
      ·rw [if_pos hc158] at hs159
       refine Gm hc158 (Gm hc158 (Gm hc158 (Gm hc158 (Gm hc158 (Gm hc158 (Vy (zF rfl hc158 rfl) ?_))))))
       obtain rfl := Oi hs159
       exact zn fun a ha => ⟨(), ha.sb, rfl⟩
      rw [if_neg (nt hc158)] at hs159
      refine Gf hc158 (Mm (Gf hc158 ?_))
      refine zy h80 hx154 underlying26 sizeOf3 rfl rfl rfl ?_
      intro b160 o161 h162
      refine Gf hc158 (Li h162 isAgg3 (Gf hc158 (Mm (Gf hc158 (Vy (zA h_work rfl underlying25 rfl) (Gf hc158 (Vy (Qz rfl rfl) (Vy (zG rfl hc158 rfl) ?_))))))))
      obtain rfl := Oi hs159
      exact zn fun a ha => ⟨(), ha.sb, rfl⟩
     simp only [List.take, List.drop]
     rintro _ _ rfl
     refine To ?_
     refine Cc (fun hc163 => ?_) fun hc163 => ?_
     ·rw [if_pos hc163] at ho104
      obtain rfl := Oi ho104
      refine zQ (fun a ha164 => ?_)
      replace hH := Hd 5 (Hf 5 (Hf 5 (Hf 3 (Hf 3 (Hf 3 hH)))))
      exact ⟨((w64 (s77.2.1 + x125), s77.2.2.1, s77.2.2.2.1, s77.2.2.2.2), v81, v83, v85, v87, v89, v91, A142), ha164.sb, ⟨rfl, h82, h84, h86, h90, h92, hH, hr106⟩⟩
     rw [if_neg (nt hc163)] at ho104
     refine Sk ?_
     refine Sr (Mm (Mm ?_))
     refine zy h80 hx154 underlying26 sizeOf3 rfl rfl rfl ?_
     intro b165 o166 h167
     refine Li h167 isAgg3 ?_
     obtain ⟨x168, hx168, ho104⟩ := Bs ho104
     refine zy h_work hx168 underlying25 sizeOf38 rfl rfl rfl ?_
     intro b169 o170 h171
     obtain ⟨v172, h174, h173⟩ := Zt h171
     refine Vy (zx h174 isAgg38 sizeOf38 rfl) ?_
     refine Zf zeroValue38 rfl ?_
     intro b175 w176 h177
     have h182 := Sl.oc h173
     refine Sn h177 sizeOf38 ?_
     intro w178 h179
     have hk184 := h179.kp (Dw := Dw)
     have h183 : El (α := za) A142 w178 b175 0 x168 := h179.el hA ⟨[Ii x168.ticket], _, rfl, rfl, ⟨[Ii x168.weight], _, rfl, rfl, ⟨[Ii x168.urgency], _, rfl, rfl, ⟨[Ii x168.since], _, rfl, rfl, ⟨[Ii x168.former], _, rfl, rfl, ⟨_, rfl, h173⟩⟩⟩⟩⟩⟩
     have ht185 := Kp.tr hk184 hA hB; replace hH := Hp.kp hH hk184; replace hr106 := Tt hr106 ht185
     obtain ⟨h_people, h_cals, h_steps, h82, h84, h86, h90, h92, hK, hB, hA⟩ := U8 ht185 hK hB h_people h_cals h_steps h82 h84 h86 h90 h92
     refine To ?_
     refine Sr (Mm ?_)
     obtain ⟨v186, h188, h187⟩ := Zt h183
     refine Vy (zx h188 isAgg38 sizeOf38 rfl) (Mm ?_)
     replace hH := Hf 3 (Hf 3 (Hf 3 hH))
     obtain ⟨x189, hx189, ho104⟩ := Bs ho104
     refine Vc call7 (zcO (Dw := Dw) w178 hB hA s77.2.2.2.2 b23 v81 h82 v83 h84 v85 h86 v87 v89 h90 v91 h92 m37 x168 v186 h187 (w64 (s77.2.1 + x125)) hH hx189) ?_
     rintro _ w205 ⟨v190, v192, v194, v196, v198, v200, v202, A206, rfl, h193, h195, h197, h201, h203, hH207, ht208⟩
     replace h183 := El.tr h183 ht208; replace hr106 := Tt hr106 ht208
     obtain ⟨h_people, h_cals, h_steps, hK, hB, hA⟩ := U3 ht208 hK hB h_people h_cals h_steps
     replace hH := hH207
     refine Mm (Vy (zD rfl rfl) (Vy (zD rfl rfl) (As (As (To ?_)))))
     refine Sr (Mm (Vy (ql rfl rfl) (To ?_)))
     obtain ⟨s210, ho209, ho104⟩ := Bs ho104
     refine zu (ι := (Nat → Prop)) (fun (A215 : (Nat → Prop)) => [(0, v_people), (1, v_cals), (2, v_steps), (3, v_work), (4, v79), (11, Pt b23), (12, Ii x189.2.1), (13, .map (some b43)), (14, .map (some b48)), (15, Ii (w64 (s77.2.1 + x125))), (16, v139), (17, v190)]) (fun (A215 : (Nat → Prop)) => fun w' => Hp w.heap.size A215 w' (o_46 v190 x189.1 :: obC b23 [v192, v194, v196, v198, Ii x189.2.2.now, v200, v202, .map (some m37)] 58 :: o_4 v198 x189.2.2.assigner.away :: obRM (κ := Int) (α := za) m37 x189.2.2.work :: o_46 v139 x138 :: obRM (κ := Int) (α := za) b48 s210 :: obSM (κ := Int) (α := Bool) b43 s77.2.2.2.1 :: []) ∧ Tr Dw w.heap.size A206 w205 A215 w') ?_ ?_
     ·have hr211 : Tr Dw w.heap.size A206 w205 A206 w205 := Tr.refl (Dw := Dw) hA
      refine Cc (fun hc217 => ?_) fun hc217 => ?_
      ·rw [if_pos hc217] at ho209
       refine zo (Mm ?_)
       have h218 := qR h183
       refine Fa underlying38 rfl sizeOf3 (Li h218 isAgg3 ?_)
       obtain ⟨v219, h221, h220⟩ := Zt h183
       refine Vy (zx h221 isAgg38 sizeOf38 rfl) ?_
       refine zee (Dw := Dw) (κ := Int) (α := za) (l := s77.2.2.1) (c := x168) (cs := #[Ii x168.ticket, Ii x168.weight, Ii x168.urgency, Ii x168.since, Ii x168.former, v219]) hH (i := 5) rfl underlying33 underlying3 rfl rfl rfl ⟨[Ii x168.ticket], _, rfl, rfl, ⟨[Ii x168.weight], _, rfl, rfl, ⟨[Ii x168.urgency], _, rfl, rfl, ⟨[Ii x168.since], _, rfl, rfl, ⟨[Ii x168.former], _, rfl, rfl, ⟨_, rfl, h220⟩⟩⟩⟩⟩⟩ hB hA ?_
       intro w222 hH223 ht224
       replace hr211 := Tt hr211 ht224; replace hH := hH223
       obtain rfl := Oi ho209
       refine zn (fun a ha225 => ?_)
       exact ⟨A206, ha225.sb, ⟨hH, hr211⟩⟩
      rw [if_neg (nt hc217)] at ho209
      obtain rfl := Oi ho209
      refine qL (fun a ha226 => ?_)
      exact ⟨A206, ha226.sb, ⟨hH, hr211⟩⟩
     rintro A215 w212 ⟨hH216, hk213⟩ a ha214
     replace h_people := Sl.tr h_people hk213; replace h_cals := Sl.tr h_cals hk213; replace h_steps := Sl.tr h_steps hk213; replace h193 := Sl.tr h193 hk213; replace h195 := Sl.tr h195 hk213; replace h197 := Sl.tr h197 hk213; replace h201 := Sl.tr h201 hk213; replace h203 := Sl.tr h203 hk213; replace hK := Tr.trans hK hk213; replace hr106 := Tr.trans hr106 hk213; replace hB := Nat.le_trans hB hk213.ex.size
     replace hA := hk213.new; replace hH := hH216
     refine C_at (n := ⟨192, [], none⟩) (fun _ _ => rfl) ?_ ha214
     refine zh (Sr (Mm (Vy (ZW rfl rfl) (To ?_))))
     refine Cc (fun hc227 => ?_) fun hc227 => ?_
     ·rw [if_pos hc227] at ho104
      refine Sr (Mm ?_)
      replace hH := Hf 3 (Hf 3 (Hf 3 hH))
      obtain ⟨x228, hx228, ho104⟩ := Bs ho104
      refine Vc call12 (zbs (Dw := Dw) w212 hB hA x189.2.2 b23 v192 h193 v194 h195 v196 h197 v198 v200 h201 v202 h203 m37 hH hx228) ?_
      rintro _ w229 ⟨A230, rfl, hH231, ht232⟩
      replace hr106 := Tt hr106 ht232
      obtain ⟨h193, h195, h197, h201, h203, hK, hB, hA⟩ := U5 ht232 hK hB h193 h195 h197 h201 h203
      replace hH := hH231
      refine As (To ?_)
      refine zh (zh ?_)
      obtain ⟨s234, ho233, ho104⟩ := Bs ho104
      refine zu (ι := (Nat → Prop)) (fun (A239 : (Nat → Prop)) => [(0, v_people), (1, v_cals), (2, v_steps), (3, v_work), (4, v79), (11, Pt b23), (13, .map (some b43)), (14, .map (some b48)), (15, Ii x228), (163, .bool s234)]) (fun (A239 : (Nat → Prop)) => fun w' => Hp w.heap.size A239 w' (obC b23 [v192, v194, v196, v198, Ii x189.2.2.now, v200, v202, .map (some m37)] 58 :: o_4 v198 x189.2.2.assigner.away :: obRM (κ := Int) (α := za) m37 x189.2.2.work :: o_46 v190 x189.1 :: o_46 v139 x138 :: obRM (κ := Int) (α := za) b48 s210 :: obSM (κ := Int) (α := Bool) b43 s77.2.2.2.1 :: []) ∧ Tr Dw w.heap.size A230 w229 A239 w') ?_ ?_
      ·have hr235 : Tr Dw w.heap.size A230 w229 A230 w229 := Tr.refl (Dw := Dw) hA
       refine zo (Mm (Vy (zA (Hp.any (α := zb) (e := 46) (v := v190) (l := x189.1) hH (i := 3) rfl) rfl underlying34 rfl) (Vy (qz rfl rfl) (Mm ?_))))
       rcases Be (decide ((0 : Int) < (x189.1.length : Int))) with hc241 | hc241
       ·rw [if_pos hc241] at ho233
        refine Gm hc241 (Gm hc241 (Gm hc241 (Gm hc241 (Gm hc241 (Vy (zF rfl hc241 rfl) ?_)))))
        obtain rfl := Oi ho233
        refine zn (fun a ha242 => ?_)
        exact ⟨A230, ha242.sb, ⟨hH, hr235⟩⟩
       rw [if_neg (nt hc241)] at ho233
       refine Gf hc241 (Mm (Gf hc241 (Mm (Gf hc241 ?_))))
       replace hH := Hf 2 (Hf 2 (Hf 2 hH))
       obtain ⟨x243, hx243, ho233⟩ := Bs ho233
       refine Vc call6 (jT (Dw := Dw) w229 hB hA x189.2.2 b23 v192 h193 v194 h195 v196 h197 v198 v200 h201 v202 h203 m37 hH hx243) ?_
       rintro v244 w246 ⟨_, A247, rfl, hH248, ht249⟩
       replace hr235 := Tt hr235 ht249; replace hB := Bx hB ht249; replace hA := ht249.new; replace hH := hH248
       refine Gf hc241 ?_
       obtain ⟨x250, hx250, ho233⟩ := Bs ho233
       refine Vc call13 (QW (Dw := Dw) w246 (A := fun _ => True) (fun _ _ => trivial) x138 v139 (Hp.any (α := zb) (e := 46) (v := v139) (l := x138) hH (i := 5) rfl) x243 v244 (Hp.any (α := zb) (e := 46) (v := v244) (l := x243) hH (i := 0) rfl) hx250) ?_
       rintro _ w251 ⟨rfl, hk252⟩
       have ht253 := Kp.tr hk252 hA hB; replace hH := Hp.kp hH hk252; replace hr235 := Tt hr235 ht253
       refine Gf hc241 (Vy (Zs rfl) (Vy (zG rfl hc241 rfl) ?_))
       obtain rfl := Oi ho233
       refine zn (fun a ha254 => ?_)
       replace hH := Hd 7 (Hf 7 (Hf 7 (Hf 7 (Hf 7 (Hf 7 (Hf 7 (Hf 7 hH)))))))
       exact ⟨A247, ha254.sb, ⟨hH, hr235⟩⟩
      rintro A239 w236 ⟨hH240, hk237⟩ a ha238
      replace h193 := Sl.tr h193 hk237; replace h195 := Sl.tr h195 hk237; replace h197 := Sl.tr h197 hk237; replace h201 := Sl.tr h201 hk237; replace h203 := Sl.tr h203 hk237; replace hK := Tr.trans hK hk237; replace hr106 := Tr.trans hr106 hk237; replace hA := hk237.new; replace hH := hH240
      refine C_at (n := ⟨192, [], none⟩) (fun _ _ => rfl) ?_ ha238
      refine Cc (fun hc255 => ?_) fun hc255 => ?_
      ·rw [if_pos hc255] at ho104
       refine Sr (As (To ?_))
       obtain rfl := Oi ho104
       rw [Lp.andThen_rt] at h97
       obtain rfl := Oi h97
       obtain rfl := (h98 : Lp.rt _ = _)
       rw [Lp.andThen_rt] at hm
       obtain rfl := Oi hm
       refine Rt (Res.one results3 rfl) ?_
       exact ⟨rfl, hK.kp⟩
      rw [if_neg (nt hc255)] at ho104
      refine Sk ?_
      obtain rfl := Oi ho104
      refine zQ (fun a ha256 => ?_)
      replace hH := Hd 5 (Hd 5 (Hf 6 (Hf 6 (Hf 2 (Hf 2 (Hf 2 hH))))))
      exact ⟨((x228, s210, s77.2.2.2.1, x189.2.2), v192, v194, v196, v198, v200, v202, A239), ha256.sb, ⟨rfl, h193, h195, h197, h201, h203, hH, hr106⟩⟩
     rw [if_neg (nt hc227)] at ho104
     refine Sk ?_
     refine zh (Sr (Mm (Vy (zA (Hp.any (α := zb) (e := 46) (v := v190) (l := x189.1) hH (i := 0) rfl) rfl underlying34 rfl) (Mm (To ?_)))))
     have hn277 := Hp.le (α := zb) (e := 46) (v := v190) (l := x189.1) hH (i := 0) rfl
     obtain ⟨o257, ho257, ho104⟩ := Bs ho104
     refine zu (ι := (Unit × (Nat → Prop))) (fun ⟨s258, A264⟩ => [(0, v_people), (1, v_cals), (2, v_steps), (3, v_work), (4, v79), (11, Pt b23), (13, .map (some b43)), (14, .map (some b48)), (15, Ii (w64 (s77.2.1 + x125)))]) (fun ⟨s258, A264⟩ => fun w' => o257 = .fin s258 ∧ Hp w.heap.size A264 w' (o_46 v190 x189.1 :: obC b23 [v192, v194, v196, v198, Ii x189.2.2.now, v200, v202, .map (some m37)] 58 :: o_4 v198 x189.2.2.assigner.away :: obRM (κ := Int) (α := za) m37 x189.2.2.work :: o_46 v139 x138 :: obRM (κ := Int) (α := za) b48 s210 :: obSM (κ := Int) (α := Bool) b43 s77.2.2.2.1 :: []) ∧ Tr Dw w.heap.size A215 w212 A264 w') ?_ ?_
     ·refine zl ?_
      refine zS ho257 (fun k260 _ a w' => ∃ i : (Nat → Prop), Has ⟨192, [], none⟩ a ([(0, v_people), (1, v_cals), (2, v_steps), (3, v_work), (4, v79), (11, Pt b23), (13, .map (some b43)), (14, .map (some b48)), (15, Ii (w64 (s77.2.1 + x125))), (164, v190), (165, Ii (x189.1.length : Int)), (166, Ii (k260 : Int))]) ∧ Hp w.heap.size i w' (o_46 v190 x189.1 :: obC b23 [v192, v194, v196, v198, Ii x189.2.2.now, v200, v202, .map (some m37)] 58 :: o_4 v198 x189.2.2.assigner.away :: obRM (κ := Int) (α := za) m37 x189.2.2.work :: o_46 v139 x138 :: obRM (κ := Int) (α := za) b48 s210 :: obSM (κ := Int) (α := Bool) b43 s77.2.2.2.1 :: []) ∧ Tr Dw w.heap.size A215 w212 i w') (fun a ha => ⟨A215, ha.sb, ⟨hH, Tr.refl (Dw := Dw) hA⟩⟩) ?_
      rintro K k260 _ a w267 ⟨A268, ha308, hH269, hr259⟩ hle273 K276 h275
      refine C_of ?_ ha308
      obtain ⟨h_people, h_cals, h_steps, hK, hB, hA⟩ := U3 hr259 hK hB h_people h_cals h_steps
      replace hH := hH269
      refine Sr (Vy (zR rfl rfl) (To ?_))
      refine zh ?_
      refine Cc (fun hc278 => ?_) fun hc278 => ?_
      ·have hlt274 := zL hc278
       obtain ⟨x270, h271, h272⟩ := K276 hlt274
       refine Sk ?_
       refine zh (zl (Sr ?_))
       obtain ⟨x279, hx279, h271⟩ := Bs h271
       refine ZQ (α := zb) (e := 46) (v := v190) (l := x189.1) hH (i := 0) rfl hx279 underlying34 sizeOf46 rfl rfl rfl ?_
       intro b280 o281 h282 hl283
       obtain ⟨h284, _⟩ := qd h282
       refine Vy (zx h284 isAgg46 sizeOf46 rfl) ?_
       refine Zf zeroValue46 rfl ?_
       intro b285 w286 h287
       refine Sn h287 sizeOf46 ?_
       intro w288 h289
       have hk291 := h289.kp (Dw := Dw)
       have h290 : El (α := zb) A268 w288 b285 0 x279 := h289.el hA ⟨[Ii x279.ticket], _, rfl, rfl, ⟨[Ii x279.person], _, rfl, rfl, ⟨[Ii x279.weight], _, rfl, rfl, rfl⟩⟩⟩
       have ht292 := Kp.tr hk291 hA hB; replace hH := Hp.kp hH hk291; replace hr259 := Tt hr259 ht292
       obtain ⟨h_people, h_cals, h_steps, hK, hB, hA⟩ := U3 ht292 hK hB h_people h_cals h_steps
       refine To ?_
       refine Sr (Mm (Mm (Mm (Mm ?_))))
       have h293 := qv h290
       refine Fa underlying46 rfl sizeOf3 (Li h293 isAgg3 ?_)
       refine zgj (κ := Int) (α := za) (z := ⟨0, 0, 0, 0, 0, []⟩) (zc := #[Ii 0, Ii 0, Ii 0, Ii 0, Ii 0, .slice none 0 0]) (l := s210) hH (i := 5) rfl underlying33 underlying3 zeroValue38 (⟨[_], _, rfl, rfl, ⟨[_], _, rfl, rfl, ⟨[_], _, rfl, rfl, ⟨[_], _, rfl, rfl, ⟨[_], _, rfl, rfl, ⟨_, rfl, Sl.nil⟩⟩⟩⟩⟩⟩) rfl rfl rfl ?_
       intro c296 h297
       obtain ⟨v294, h298, h295⟩ := zak h297
       obtain rfl := zhn h298
       have h299 := jk h290
       refine Fa underlying46 rfl sizeOf3 (Li h299 isAgg3 ?_)
       have h300 := JX h290
       refine Fa underlying46 rfl sizeOf3 (Li h300 isAgg3 ?_)
       obtain ⟨x301, hx301, h271⟩ := Bs h271
       refine Vc call14 (JR (Dw := Dw) w288 hA people v_people h_people cals v_cals h_cals steps v_steps h_steps ((zw s210 x279.ticket).getD (⟨0, 0, 0, 0, 0, []⟩)) v294 h295 x279.person x279.since hx301) ?_
       rintro _ w302 ⟨rfl, hk303⟩
       have ht304 := Kp.tr hk303 hA hB; replace hH := Hp.kp hH hk303; replace hK := Tt hK ht304; replace hr259 := Tt hr259 ht304
       refine Vy (Zs rfl) (To ?_)
       refine Cc (fun hc305 => ?_) fun hc305 => ?_
       ·rw [if_pos hc305] at h271
        refine Sr (As (To ?_))
        obtain rfl := Oi h271
        obtain rfl := (h272 : Lp.rt _ = _)
        rw [Lp.andThen_rt] at ho104
        obtain rfl := Oi ho104
        rw [Lp.andThen_rt] at h97
        obtain rfl := Oi h97
        obtain rfl := (h98 : Lp.rt _ = _)
        rw [Lp.andThen_rt] at hm
        obtain rfl := Oi hm
        refine Rt (Res.one results3 rfl) ?_
        exact ⟨rfl, hK.kp⟩
       rw [if_neg (nt hc305)] at h271
       refine Sk ?_
       refine zo (Vy (zN rfl rfl) (Mm ?_))
       obtain rfl := Oi h271
       refine zn (fun a ha306 => ?_)
       exact ⟨(), hlt274, h272, ⟨A268, ha306.sub ⟨rfl, rfl, rfl, rfl, rfl, rfl, rfl, rfl, rfl, rfl, rfl, Ws hlt274 hn277, trivial⟩, ⟨hH, hr259⟩⟩⟩
      refine zQ (fun a ha307 => ?_)
      exact ⟨((), A268), ha307.sb, ⟨(h275 (zK hle273 hc278)).symm, hH, hr259⟩⟩
     rintro ⟨s258, A264⟩ w261 ⟨rfl, hH265, hk262⟩ a ha263
     rw [Lp.andThen_fin] at ho104
     replace h_people := Sl.tr h_people hk262; replace h_cals := Sl.tr h_cals hk262; replace h_steps := Sl.tr h_steps hk262; replace h193 := Sl.tr h193 hk262; replace h195 := Sl.tr h195 hk262; replace h197 := Sl.tr h197 hk262; replace h201 := Sl.tr h201 hk262; replace h203 := Sl.tr h203 hk262; replace hK := Tr.trans hK hk262; replace hr106 := Tr.trans hr106 hk262; replace hB := Nat.le_trans hB hk262.ex.size
     replace hA := hk262.new; replace hH := hH265
     refine C_at (n := ⟨192, [], none⟩) (fun _ _ => rfl) ?_ ha263
     refine Sr (Mm (Mm (Mm (Mm (Mm (Mm ?_))))))
     replace hH := Hf 4 (Hf 4 (Hf 4 (Hf 6 hH)))
     obtain ⟨x309, hx309, ho104⟩ := Bs ho104
     refine Vc call15 (zcV (Dw := Dw) w261 hB hA x189.2.2 b23 v192 h193 v194 h195 v196 h197 v198 v200 h201 v202 h203 m37 people v_people h_people cals v_cals h_cals steps v_steps h_steps s77.2.2.2.1 b43 (w64 (s77.2.1 + x125)) hH hx309) ?_
     rintro _ w310 ⟨A311, rfl, hH312, ht313⟩
     replace hK := Tt hK ht313; replace hr106 := Tt hr106 ht313
     obtain ⟨h193, h195, h197, h201, h203⟩ := T5 ht313 h193 h195 h197 h201 h203
     replace hH := hH312
     refine Vy (Zs rfl) (To ?_)
     refine Cc (fun hc314 => ?_) fun hc314 => ?_
     ·rw [if_pos hc314] at ho104
      refine Sr (As (To ?_))
      obtain rfl := Oi ho104
      rw [Lp.andThen_rt] at h97
      obtain rfl := Oi h97
      obtain rfl := (h98 : Lp.rt _ = _)
      rw [Lp.andThen_rt] at hm
      obtain rfl := Oi hm
      refine Rt (Res.one results3 rfl) ?_
      exact ⟨rfl, hK.kp⟩
     rw [if_neg (nt hc314)] at ho104
     obtain rfl := Oi ho104
     refine qL (fun a ha315 => ?_)
     replace hH := Hd 5 (Hd 5 (Hf 6 (Hf 3 (Hf 2 (Hf 2 (Hf 2 hH))))))
     exact ⟨((w64 (s77.2.1 + x125), s210, s77.2.2.2.1, x189.2.2), v192, v194, v196, v198, v200, v202, A311), ha315.sb, ⟨rfl, h193, h195, h197, h201, h203, hH, hr106⟩⟩
    rw [if_neg (nt hc153)] at ho104
    refine Sr (Vy (ql rfl rfl) (As (To ?_)))
    obtain ⟨s317, ho316, ho104⟩ := Bs ho104
    refine zu (ι := (Value × Value × Value × Value × Value × Value × Value × (Nat → Prop))) (fun ⟨v319, v321, v323, v325, v327, v329, v331, A337⟩ => [(0, v_people), (1, v_cals), (2, v_steps), (3, v_work), (4, v79), (11, Pt b23), (12, Ii s317.1), (13, .map (some b43)), (14, .map (some b48)), (15, Ii (w64 (s77.2.1 + x125))), (16, v139), (17, v319)]) (fun ⟨v319, v321, v323, v325, v327, v329, v331, A337⟩ => fun w' => Sl A337 w' v319 s317.2.1 ∧ Sl A337 w' v321 s317.2.2.1.assigner.people ∧ Sl A337 w' v323 s317.2.2.1.assigner.cals ∧ Sl A337 w' v325 s317.2.2.1.assigner.steps ∧ Sl A337 w' v329 s317.2.2.1.waiting ∧ Sl A337 w' v331 s317.2.2.1.held ∧ Hp w.heap.size A337 w' (o_46 v139 x138 :: obC b23 [v321, v323, v325, v327, Ii s317.2.2.1.now, v329, v331, .map (some m37)] 58 :: o_4 v327 s317.2.2.1.assigner.away :: obRM (κ := Int) (α := za) m37 s317.2.2.1.work :: obRM (κ := Int) (α := za) b48 s77.2.2.1 :: obSM (κ := Int) (α := Bool) b43 s317.2.2.2 :: []) ∧ Tr Dw w.heap.size A142 w141 A337 w') ?_ ?_
    ·have hr318 : Tr Dw w.heap.size A142 w141 A142 w141 := Tr.refl (Dw := Dw) hA
     refine Cc (fun hc339 => ?_) fun hc339 => ?_
     ·rw [if_pos hc339] at ho316
      refine zo (Mm (Mm (Mm ?_)))
      replace hH := Hf 3 (Hf 3 (Hf 3 hH))
      obtain ⟨x340, hx340, ho316⟩ := Bs ho316
      refine Vc call8 (zcU (Dw := Dw) w141 hB hA s77.2.2.2.2 b23 v81 h82 v83 h84 v85 h86 v87 v89 h90 v91 h92 m37 x145 (w64 (s77.2.1 + x125)) hH hx340) ?_
      rintro _ w356 ⟨v341, v343, v345, v347, v349, v351, v353, A357, rfl, h344, h346, h348, h352, h354, hH358, ht359⟩
      replace hr318 := Tt hr318 ht359; replace hA := ht359.new; replace hH := hH358
      refine Mm (Vy (zD rfl rfl) (Vy (zD rfl rfl) (As (As ?_))))
      obtain rfl := Oi ho316
      refine zn (fun a ha360 => ?_)
      obtain ⟨A361, ht362, h363, hH364⟩ := Hp.freeze (Dw := Dw) (α := zb) (v := v341) (l := x340.1) hH (i := 0) rfl hA
      replace hr318 := Tt hr318 ht362
      obtain ⟨h344, h346, h348, h352, h354⟩ := T5 ht362 h344 h346 h348 h352 h354
      replace hH := hH364
      replace hH := Hf 5 (Hf 4 (Hf 4 (Hf 4 (Hf 5 (Hf 5 hH)))))
      exact ⟨(v341, v343, v345, v347, v349, v351, v353, A361), ha360.sb, ⟨h363, h344, h346, h348, h352, h354, hH, hr318⟩⟩
     rw [if_neg (nt hc339)] at ho316
     refine Sr (Vy (ql rfl rfl) (As (To ?_)))
     obtain ⟨s367, ho366, ho316⟩ := Bs ho316
     refine zu (ι := (Value × Value × Value × Value × Value × Value × Value × (Nat → Prop))) (fun ⟨v369, v371, v373, v375, v377, v379, v381, A387⟩ => [(0, v_people), (1, v_cals), (2, v_steps), (3, v_work), (4, v79), (11, Pt b23), (12, Ii s367.1), (13, .map (some b43)), (14, .map (some b48)), (15, Ii (w64 (s77.2.1 + x125))), (16, v139), (17, v369)]) (fun ⟨v369, v371, v373, v375, v377, v379, v381, A387⟩ => fun w' => Sl A387 w' v369 s367.2.1 ∧ Sl A387 w' v371 s367.2.2.1.assigner.people ∧ Sl A387 w' v373 s367.2.2.1.assigner.cals ∧ Sl A387 w' v375 s367.2.2.1.assigner.steps ∧ Sl A387 w' v379 s367.2.2.1.waiting ∧ Sl A387 w' v381 s367.2.2.1.held ∧ Hp w.heap.size A387 w' (o_46 v139 x138 :: obC b23 [v371, v373, v375, v377, Ii s367.2.2.1.now, v379, v381, .map (some m37)] 58 :: o_4 v377 s367.2.2.1.assigner.away :: obRM (κ := Int) (α := za) m37 s367.2.2.1.work :: obRM (κ := Int) (α := za) b48 s77.2.2.1 :: obSM (κ := Int) (α := Bool) b43 s367.2.2.2 :: []) ∧ Tr Dw w.heap.size A142 w141 A387 w') ?_ ?_
     ·have hr368 : Tr Dw w.heap.size A142 w141 A142 w141 := Tr.refl (Dw := Dw) hA
      refine Cc (fun hc389 => ?_) fun hc389 => ?_
      ·rw [if_pos hc389] at ho366
       refine Sr (Mm (Mm (Mm ?_)))
       replace hH := Hf 3 (Hf 3 (Hf 3 hH))
       obtain ⟨x390, hx390, ho366⟩ := Bs ho366
       refine Vc call9 (zdL (Dw := Dw) w141 hB hA s77.2.2.2.2 b23 v81 h82 v83 h84 v85 h86 v87 v89 h90 v91 h92 m37 x145 (w64 (s77.2.1 + x125)) hH hx390) ?_
       rintro _ w406 ⟨v391, v393, v395, v397, v399, v401, v403, A407, rfl, h394, h396, h398, h402, h404, hH408, ht409⟩
       replace hr368 := Tt hr368 ht409; replace hB := Bx hB ht409; replace hA := ht409.new; replace hH := hH408
       refine Mm (Vy (zD rfl rfl) (Vy (zD rfl rfl) (As (As (To ?_)))))
       refine Sr (Mm (Vy (ql rfl rfl) (To ?_)))
       obtain ⟨s411, ho410, ho366⟩ := Bs ho366
       refine zu (ι := (Nat → Prop)) (fun (A416 : (Nat → Prop)) => [(0, v_people), (1, v_cals), (2, v_steps), (3, v_work), (4, v79), (11, Pt b23), (12, Ii x390.2.1), (13, .map (some b43)), (14, .map (some b48)), (15, Ii (w64 (s77.2.1 + x125))), (16, v139), (17, v391)]) (fun (A416 : (Nat → Prop)) => fun w' => Hp w.heap.size A416 w' (o_46 v391 x390.1 :: obC b23 [v393, v395, v397, v399, Ii x390.2.2.now, v401, v403, .map (some m37)] 58 :: o_4 v399 x390.2.2.assigner.away :: obRM (κ := Int) (α := za) m37 x390.2.2.work :: o_46 v139 x138 :: obRM (κ := Int) (α := za) b48 s77.2.2.1 :: obSM (κ := Int) (α := Bool) b43 s411 :: []) ∧ Tr Dw w.heap.size A407 w406 A416 w') ?_ ?_
       ·have hr412 : Tr Dw w.heap.size A407 w406 A407 w406 := Tr.refl (Dw := Dw) hA
        refine Cc (fun hc418 => ?_) fun hc418 => ?_
        ·rw [if_pos hc418] at ho410
         refine zo (Mm (Mm ?_))
         refine zhp (Dw := Dw) (κ := Int) (α := Bool) (l := s77.2.2.2.1) (c := true) hH (i := 6) rfl underlying32 underlying3 rfl rfl rfl hB hA ?_
         intro w419 hH420 ht421
         replace hr412 := Tt hr412 ht421; replace hH := hH420
         obtain rfl := Oi ho410
         refine zn (fun a ha422 => ?_)
         exact ⟨A407, ha422.sb, ⟨hH, hr412⟩⟩
        rw [if_neg (nt hc418)] at ho410
        obtain rfl := Oi ho410
        refine qL (fun a ha423 => ?_)
        exact ⟨A407, ha423.sb, ⟨hH, hr412⟩⟩
       rintro A416 w413 ⟨hH417, hk414⟩ a ha415
       replace h394 := Sl.tr h394 hk414; replace h396 := Sl.tr h396 hk414; replace h398 := Sl.tr h398 hk414; replace h402 := Sl.tr h402 hk414; replace h404 := Sl.tr h404 hk414; replace hr368 := Tr.trans hr368 hk414; replace hA := hk414.new; replace hH := hH417
       obtain rfl := Oi ho366
       obtain ⟨A425, ht426, h427, hH428⟩ := Hp.freeze (Dw := Dw) (α := zb) (v := v391) (l := x390.1) hH (i := 0) rfl hA
       replace hr368 := Tt hr368 ht426
       obtain ⟨h394, h396, h398, h402, h404⟩ := T5 ht426 h394 h396 h398 h402 h404
       replace hH := hH428
       replace hH := Hf 5 (Hf 4 (Hf 4 (Hf 4 (Hf 5 (Hf 5 hH)))))
       exact ⟨(v391, v393, v395, v397, v399, v401, v403, A425), ha415.sb, ⟨h427, h394, h396, h398, h402, h404, hH, hr368⟩⟩
      rw [if_neg (nt hc389)] at ho366
      refine Sr (Vy (ql rfl rfl) (As (To ?_)))
      obtain ⟨s431, ho430, ho366⟩ := Bs ho366
      refine zu (ι := (Value × Value × Value × Value × Value × Value × Value × (Nat → Prop))) (fun ⟨v433, v435, v437, v439, v441, v443, v445, A451⟩ => [(0, v_people), (1, v_cals), (2, v_steps), (3, v_work), (4, v79), (11, Pt b23), (12, Ii s431.1), (13, .map (some b43)), (14, .map (some b48)), (15, Ii (w64 (s77.2.1 + x125))), (16, v139), (17, v433)]) (fun ⟨v433, v435, v437, v439, v441, v443, v445, A451⟩ => fun w' => Sl A451 w' v433 s431.2.1 ∧ Sl A451 w' v435 s431.2.2.1.assigner.people ∧ Sl A451 w' v437 s431.2.2.1.assigner.cals ∧ Sl A451 w' v439 s431.2.2.1.assigner.steps ∧ Sl A451 w' v443 s431.2.2.1.waiting ∧ Sl A451 w' v445 s431.2.2.1.held ∧ Hp w.heap.size A451 w' (o_46 v139 x138 :: obC b23 [v435, v437, v439, v441, Ii s431.2.2.1.now, v443, v445, .map (some m37)] 58 :: o_4 v441 s431.2.2.1.assigner.away :: obRM (κ := Int) (α := za) m37 s431.2.2.1.work :: obRM (κ := Int) (α := za) b48 s77.2.2.1 :: obSM (κ := Int) (α := Bool) b43 s431.2.2.2 :: []) ∧ Tr Dw w.heap.size A142 w141 A451 w') ?_ ?_
      ·have hr432 : Tr Dw w.heap.size A142 w141 A142 w141 := Tr.refl (Dw := Dw) hA
       refine Cc (fun hc453 => ?_) fun hc453 => ?_
       ·rw [if_pos hc453] at ho430
        refine Sr (Mm (Mm (Mm ?_)))
        replace hH := Hf 3 (Hf 3 (Hf 3 hH))
        obtain ⟨x454, hx454, ho430⟩ := Bs ho430
        refine Vc call10 (zcR (Dw := Dw) w141 hB hA s77.2.2.2.2 b23 v81 h82 v83 h84 v85 h86 v87 v89 h90 v91 h92 m37 x145 (w64 (s77.2.1 + x125)) hH hx454) ?_
        rintro _ w470 ⟨v455, v457, v459, v461, v463, v465, v467, A471, rfl, h458, h460, h462, h466, h468, hH472, ht473⟩
        replace hr432 := Tt hr432 ht473; replace hB := Bx hB ht473; replace hA := ht473.new; replace hH := hH472
        refine Mm (Vy (zD rfl rfl) (Vy (zD rfl rfl) (As (As (To ?_)))))
        refine Sr (Mm (Vy (ql rfl rfl) (To ?_)))
        obtain ⟨s475, ho474, ho430⟩ := Bs ho430
        refine zu (ι := (Nat → Prop)) (fun (A480 : (Nat → Prop)) => [(0, v_people), (1, v_cals), (2, v_steps), (3, v_work), (4, v79), (11, Pt b23), (12, Ii x454.2.1), (13, .map (some b43)), (14, .map (some b48)), (15, Ii (w64 (s77.2.1 + x125))), (16, v139), (17, v455)]) (fun (A480 : (Nat → Prop)) => fun w' => Hp w.heap.size A480 w' (o_46 v455 x454.1 :: obC b23 [v457, v459, v461, v463, Ii x454.2.2.now, v465, v467, .map (some m37)] 58 :: o_4 v463 x454.2.2.assigner.away :: obRM (κ := Int) (α := za) m37 x454.2.2.work :: o_46 v139 x138 :: obRM (κ := Int) (α := za) b48 s77.2.2.1 :: obSM (κ := Int) (α := Bool) b43 s475 :: []) ∧ Tr Dw w.heap.size A471 w470 A480 w') ?_ ?_
        ·have hr476 : Tr Dw w.heap.size A471 w470 A471 w470 := Tr.refl (Dw := Dw) hA
         refine Cc (fun hc482 => ?_) fun hc482 => ?_
         ·rw [if_pos hc482] at ho474
          refine zo (Mm (Mm ?_))
          refine zjR (Dw := Dw) (κ := Int) (α := Bool) (l := s77.2.2.2.1) hH (i := 6) rfl underlying32 underlying3 rfl rfl hB hA ?_
          intro w483 hH484 ht485
          replace hr476 := Tt hr476 ht485; replace hH := hH484
          obtain rfl := Oi ho474
          refine zn (fun a ha486 => ?_)
          exact ⟨A471, ha486.sb, ⟨hH, hr476⟩⟩
         rw [if_neg (nt hc482)] at ho474
         obtain rfl := Oi ho474
         refine qL (fun a ha487 => ?_)
         exact ⟨A471, ha487.sb, ⟨hH, hr476⟩⟩
        rintro A480 w477 ⟨hH481, hk478⟩ a ha479
        replace h458 := Sl.tr h458 hk478; replace h460 := Sl.tr h460 hk478; replace h462 := Sl.tr h462 hk478; replace h466 := Sl.tr h466 hk478; replace h468 := Sl.tr h468 hk478; replace hr432 := Tr.trans hr432 hk478; replace hA := hk478.new; replace hH := hH481
        obtain rfl := Oi ho430
        obtain ⟨A489, ht490, h491, hH492⟩ := Hp.freeze (Dw := Dw) (α := zb) (v := v455) (l := x454.1) hH (i := 0) rfl hA
        replace hr432 := Tt hr432 ht490
        obtain ⟨h458, h460, h462, h466, h468⟩ := T5 ht490 h458 h460 h462 h466 h468
        replace hH := hH492
        replace hH := Hf 5 (Hf 4 (Hf 4 (Hf 4 (Hf 5 (Hf 5 hH)))))
        exact ⟨(v455, v457, v459, v461, v463, v465, v467, A489), ha479.sb, ⟨h491, h458, h460, h462, h466, h468, hH, hr432⟩⟩
       rw [if_neg (nt hc453)] at ho430
       refine zo (Mm (Mm ?_))
       replace hH := Hf 3 (Hf 3 (Hf 3 hH))
       obtain ⟨x494, hx494, ho430⟩ := Bs ho430
       refine Vc call11 (zdW (Dw := Dw) w141 hB hA s77.2.2.2.2 b23 v81 h82 v83 h84 v85 h86 v87 v89 h90 v91 h92 m37 (w64 (s77.2.1 + x125)) hH hx494) ?_
       rintro _ w510 ⟨v495, v497, v499, v501, v503, v505, v507, A511, rfl, h498, h500, h502, h506, h508, hH512, ht513⟩
       replace hr432 := Tt hr432 ht513; replace hA := ht513.new; replace hH := hH512
       refine Mm (Vy (zD rfl rfl) (Vy (zD rfl rfl) (As (As ?_))))
       obtain rfl := Oi ho430
       refine zn (fun a ha514 => ?_)
       obtain ⟨A515, ht516, h517, hH518⟩ := Hp.freeze (Dw := Dw) (α := zb) (v := v495) (l := x494.1) hH (i := 0) rfl hA
       replace hr432 := Tt hr432 ht516
       obtain ⟨h498, h500, h502, h506, h508⟩ := T5 ht516 h498 h500 h502 h506 h508
       replace hH := hH518
       replace hH := Hf 5 (Hf 4 (Hf 4 (Hf 4 (Hf 5 (Hf 5 hH)))))
       exact ⟨(v495, v497, v499, v501, v503, v505, v507, A515), ha514.sb, ⟨h517, h498, h500, h502, h506, h508, hH, hr432⟩⟩
      rintro ⟨v433, v435, v437, v439, v441, v443, v445, A451⟩ w448 ⟨h434, h436, h438, h440, h444, h446, hH452, hk449⟩ a ha450
      replace hr368 := Tr.trans hr368 hk449; replace hA := hk449.new; replace hH := hH452
      obtain rfl := Oi ho366
      exact ⟨(v433, v435, v437, v439, v441, v443, v445, A451), ha450.sb, ⟨h434, h436, h438, h440, h444, h446, hH, hr368⟩⟩
     rintro ⟨v369, v371, v373, v375, v377, v379, v381, A387⟩ w384 ⟨h370, h372, h374, h376, h380, h382, hH388, hk385⟩ a ha386
     replace hr318 := Tr.trans hr318 hk385; replace hA := hk385.new; replace hH := hH388
     obtain rfl := Oi ho316
     exact ⟨(v369, v371, v373, v375, v377, v379, v381, A387), ha386.sb, ⟨h370, h372, h374, h376, h380, h382, hH, hr318⟩⟩
    rintro ⟨v319, v321, v323, v325, v327, v329, v331, A337⟩ w334 ⟨h320, h322, h324, h326, h330, h332, hH338, hk335⟩ a ha336
    replace h_people := Sl.tr h_people hk335; replace h_cals := Sl.tr h_cals hk335; replace h_steps := Sl.tr h_steps hk335; replace hK := Tr.trans hK hk335; replace hr106 := Tr.trans hr106 hk335; replace hB := Nat.le_trans hB hk335.ex.size; replace hA := hk335.new; replace hH := hH338
    refine C_at (n := ⟨192, [], none⟩) (fun _ _ => rfl) ?_ ha336
    refine zh (Sr (Mm (Vy (ZW rfl rfl) (To ?_))))
    refine Cc (fun hc522 => ?_) fun hc522 => ?_
    ·rw [if_pos hc522] at ho104
     refine Sr (Mm ?_)
     replace hH := Hf 3 (Hf 3 (Hf 3 hH))
     obtain ⟨x523, hx523, ho104⟩ := Bs ho104
     refine Vc call12 (zbs (Dw := Dw) w334 hB hA s317.2.2.1 b23 v321 h322 v323 h324 v325 h326 v327 v329 h330 v331 h332 m37 hH hx523) ?_
     rintro _ w524 ⟨A525, rfl, hH526, ht527⟩
     replace hr106 := Tt hr106 ht527
     obtain ⟨h320, h322, h324, h326, h330, h332, hK, hB, hA⟩ := U6 ht527 hK hB h320 h322 h324 h326 h330 h332
     replace hH := hH526
     refine As (To ?_)
     refine zh (zh ?_)
     obtain ⟨s529, ho528, ho104⟩ := Bs ho104
     refine zu (ι := (Nat → Prop)) (fun (A534 : (Nat → Prop)) => [(0, v_people), (1, v_cals), (2, v_steps), (3, v_work), (4, v79), (11, Pt b23), (13, .map (some b43)), (14, .map (some b48)), (15, Ii x523), (163, .bool s529)]) (fun (A534 : (Nat → Prop)) => fun w' => Hp w.heap.size A534 w' (obC b23 [v321, v323, v325, v327, Ii s317.2.2.1.now, v329, v331, .map (some m37)] 58 :: o_4 v327 s317.2.2.1.assigner.away :: obRM (κ := Int) (α := za) m37 s317.2.2.1.work :: o_46 v139 x138 :: obRM (κ := Int) (α := za) b48 s77.2.2.1 :: obSM (κ := Int) (α := Bool) b43 s317.2.2.2 :: []) ∧ Tr Dw w.heap.size A525 w524 A534 w') ?_ ?_
     ·have hr530 : Tr Dw w.heap.size A525 w524 A525 w524 := Tr.refl (Dw := Dw) hA
      refine zo (Mm (Vy (zA h320 rfl underlying34 rfl) (Vy (qz rfl rfl) (Mm ?_))))
      rcases Be (decide ((0 : Int) < (s317.2.1.length : Int))) with hc536 | hc536
      ·rw [if_pos hc536] at ho528
       refine Gm hc536 (Gm hc536 (Gm hc536 (Gm hc536 (Gm hc536 (Vy (zF rfl hc536 rfl) ?_)))))
       obtain rfl := Oi ho528
       refine zn (fun a ha537 => ?_)
       exact ⟨A525, ha537.sb, ⟨hH, hr530⟩⟩
      rw [if_neg (nt hc536)] at ho528
      refine Gf hc536 (Mm (Gf hc536 (Mm (Gf hc536 ?_))))
      replace hH := Hf 2 (Hf 2 (Hf 2 hH))
      obtain ⟨x538, hx538, ho528⟩ := Bs ho528
      refine Vc call6 (jT (Dw := Dw) w524 hB hA s317.2.2.1 b23 v321 h322 v323 h324 v325 h326 v327 v329 h330 v331 h332 m37 hH hx538) ?_
      rintro v539 w541 ⟨_, A542, rfl, hH543, ht544⟩
      replace hr530 := Tt hr530 ht544; replace hB := Bx hB ht544; replace hA := ht544.new; replace hH := hH543
      refine Gf hc536 ?_
      obtain ⟨x545, hx545, ho528⟩ := Bs ho528
      refine Vc call13 (QW (Dw := Dw) w541 (A := fun _ => True) (fun _ _ => trivial) x138 v139 (Hp.any (α := zb) (e := 46) (v := v139) (l := x138) hH (i := 4) rfl) x538 v539 (Hp.any (α := zb) (e := 46) (v := v539) (l := x538) hH (i := 0) rfl) hx545) ?_
      rintro _ w546 ⟨rfl, hk547⟩
      have ht548 := Kp.tr hk547 hA hB; replace hH := Hp.kp hH hk547; replace hr530 := Tt hr530 ht548
      refine Gf hc536 (Vy (Zs rfl) (Vy (zG rfl hc536 rfl) ?_))
      obtain rfl := Oi ho528
      refine zn (fun a ha549 => ?_)
      replace hH := Hd 6 (Hf 6 (Hf 6 (Hf 6 (Hf 6 (Hf 6 (Hf 6 hH))))))
      exact ⟨A542, ha549.sb, ⟨hH, hr530⟩⟩
     rintro A534 w531 ⟨hH535, hk532⟩ a ha533
     replace h322 := Sl.tr h322 hk532; replace h324 := Sl.tr h324 hk532; replace h326 := Sl.tr h326 hk532; replace h330 := Sl.tr h330 hk532; replace h332 := Sl.tr h332 hk532; replace hK := Tr.trans hK hk532; replace hr106 := Tr.trans hr106 hk532; replace hA := hk532.new; replace hH := hH535
     refine C_at (n := ⟨192, [], none⟩) (fun _ _ => rfl) ?_ ha533
     refine Cc (fun hc550 => ?_) fun hc550 => ?_
     ·rw [if_pos hc550] at ho104
      refine Sr (As (To ?_))
      obtain rfl := Oi ho104
      rw [Lp.andThen_rt] at h97
      obtain rfl := Oi h97
      obtain rfl := (h98 : Lp.rt _ = _)
      rw [Lp.andThen_rt] at hm
      obtain rfl := Oi hm
      refine Rt (Res.one results3 rfl) ?_
      exact ⟨rfl, hK.kp⟩
     rw [if_neg (nt hc550)] at ho104
     refine Sk ?_
     obtain rfl := Oi ho104
     refine zQ (fun a ha551 => ?_)
     replace hH := Hd 5 (Hf 5 (Hf 5 (Hf 2 (Hf 2 (Hf 2 hH)))))
     exact ⟨((x523, s77.2.2.1, s317.2.2.2, s317.2.2.1), v321, v323, v325, v327, v329, v331, A534), ha551.sb, ⟨rfl, h322, h324, h326, h330, h332, hH, hr106⟩⟩
    rw [if_neg (nt hc522)] at ho104
    refine Sk ?_
    refine zh (Sr (Mm (Vy (zA h320 rfl underlying34 rfl) (Mm (To ?_)))))
    have hn572 := Sl.le h320
    obtain ⟨o552, ho552, ho104⟩ := Bs ho104
    refine zu (ι := (Unit × (Nat → Prop))) (fun ⟨s553, A559⟩ => [(0, v_people), (1, v_cals), (2, v_steps), (3, v_work), (4, v79), (11, Pt b23), (13, .map (some b43)), (14, .map (some b48)), (15, Ii (w64 (s77.2.1 + x125)))]) (fun ⟨s553, A559⟩ => fun w' => o552 = .fin s553 ∧ Hp w.heap.size A559 w' (o_46 v139 x138 :: obC b23 [v321, v323, v325, v327, Ii s317.2.2.1.now, v329, v331, .map (some m37)] 58 :: o_4 v327 s317.2.2.1.assigner.away :: obRM (κ := Int) (α := za) m37 s317.2.2.1.work :: obRM (κ := Int) (α := za) b48 s77.2.2.1 :: obSM (κ := Int) (α := Bool) b43 s317.2.2.2 :: []) ∧ Tr Dw w.heap.size A337 w334 A559 w') ?_ ?_
    ·refine zl ?_
     refine zS ho552 (fun k555 _ a w' => ∃ i : (Nat → Prop), Has ⟨192, [], none⟩ a ([(0, v_people), (1, v_cals), (2, v_steps), (3, v_work), (4, v79), (11, Pt b23), (13, .map (some b43)), (14, .map (some b48)), (15, Ii (w64 (s77.2.1 + x125))), (164, v319), (165, Ii (s317.2.1.length : Int)), (166, Ii (k555 : Int))]) ∧ Hp w.heap.size i w' (o_46 v139 x138 :: obC b23 [v321, v323, v325, v327, Ii s317.2.2.1.now, v329, v331, .map (some m37)] 58 :: o_4 v327 s317.2.2.1.assigner.away :: obRM (κ := Int) (α := za) m37 s317.2.2.1.work :: obRM (κ := Int) (α := za) b48 s77.2.2.1 :: obSM (κ := Int) (α := Bool) b43 s317.2.2.2 :: []) ∧ Tr Dw w.heap.size A337 w334 i w') (fun a ha => ⟨A337, ha.sb, ⟨hH, Tr.refl (Dw := Dw) hA⟩⟩) ?_
     rintro K k555 _ a w562 ⟨A563, ha602, hH564, hr554⟩ hle568 K571 h570
     refine C_of ?_ ha602
     obtain ⟨h_people, h_cals, h_steps, h320, hK, hB, hA⟩ := U4 hr554 hK hB h_people h_cals h_steps h320
     replace hH := hH564
     refine Sr (Vy (zR rfl rfl) (To ?_))
     refine zh ?_
     refine Cc (fun hc573 => ?_) fun hc573 => ?_
     ·have hlt569 := zL hc573
      obtain ⟨x565, h566, h567⟩ := K571 hlt569
      refine Sk ?_
      refine zh (zl (Sr ?_))
      obtain ⟨x574, hx574, h566⟩ := Bs h566
      refine zy h320 hx574 underlying34 sizeOf46 rfl rfl rfl ?_
      intro b575 o576 h577
      obtain ⟨h578, _⟩ := qd h577
      refine Vy (zx h578 isAgg46 sizeOf46 rfl) ?_
      refine Zf zeroValue46 rfl ?_
      intro b579 w580 h581
      refine Sn h581 sizeOf46 ?_
      intro w582 h583
      have hk585 := h583.kp (Dw := Dw)
      have h584 : El (α := zb) A563 w582 b579 0 x574 := h583.el hA ⟨[Ii x574.ticket], _, rfl, rfl, ⟨[Ii x574.person], _, rfl, rfl, ⟨[Ii x574.weight], _, rfl, rfl, rfl⟩⟩⟩
      have ht586 := Kp.tr hk585 hA hB; replace hH := Hp.kp hH hk585; replace hr554 := Tt hr554 ht586
      obtain ⟨h_people, h_cals, h_steps, hK, hB, hA⟩ := U3 ht586 hK hB h_people h_cals h_steps
      refine To ?_
      refine Sr (Mm (Mm (Mm (Mm ?_))))
      have h587 := qv h584
      refine Fa underlying46 rfl sizeOf3 (Li h587 isAgg3 ?_)
      refine zgj (κ := Int) (α := za) (z := ⟨0, 0, 0, 0, 0, []⟩) (zc := #[Ii 0, Ii 0, Ii 0, Ii 0, Ii 0, .slice none 0 0]) (l := s77.2.2.1) hH (i := 4) rfl underlying33 underlying3 zeroValue38 (⟨[_], _, rfl, rfl, ⟨[_], _, rfl, rfl, ⟨[_], _, rfl, rfl, ⟨[_], _, rfl, rfl, ⟨[_], _, rfl, rfl, ⟨_, rfl, Sl.nil⟩⟩⟩⟩⟩⟩) rfl rfl rfl ?_
      intro c590 h591
      obtain ⟨v588, h592, h589⟩ := zak h591
      obtain rfl := zhn h592
      have h593 := jk h584
      refine Fa underlying46 rfl sizeOf3 (Li h593 isAgg3 ?_)
      have h594 := JX h584
      refine Fa underlying46 rfl sizeOf3 (Li h594 isAgg3 ?_)
      obtain ⟨x595, hx595, h566⟩ := Bs h566
      refine Vc call14 (JR (Dw := Dw) w582 hA people v_people h_people cals v_cals h_cals steps v_steps h_steps ((zw s77.2.2.1 x574.ticket).getD (⟨0, 0, 0, 0, 0, []⟩)) v588 h589 x574.person x574.since hx595) ?_
      rintro _ w596 ⟨rfl, hk597⟩
      have ht598 := Kp.tr hk597 hA hB; replace hH := Hp.kp hH hk597; replace hK := Tt hK ht598; replace hr554 := Tt hr554 ht598
      refine Vy (Zs rfl) (To ?_)
      refine Cc (fun hc599 => ?_) fun hc599 => ?_
      ·rw [if_pos hc599] at h566
       refine Sr (As (To ?_))
       obtain rfl := Oi h566
       obtain rfl := (h567 : Lp.rt _ = _)
       rw [Lp.andThen_rt] at ho104
       obtain rfl := Oi ho104
       rw [Lp.andThen_rt] at h97
       obtain rfl := Oi h97
       obtain rfl := (h98 : Lp.rt _ = _)
       rw [Lp.andThen_rt] at hm
       obtain rfl := Oi hm
       refine Rt (Res.one results3 rfl) ?_
       exact ⟨rfl, hK.kp⟩
      rw [if_neg (nt hc599)] at h566
      refine Sk ?_
      refine zo (Vy (zN rfl rfl) (Mm ?_))
      obtain rfl := Oi h566
      refine zn (fun a ha600 => ?_)
      exact ⟨(), hlt569, h567, ⟨A563, ha600.sub ⟨rfl, rfl, rfl, rfl, rfl, rfl, rfl, rfl, rfl, rfl, rfl, Ws hlt569 hn572, trivial⟩, ⟨hH, hr554⟩⟩⟩
     refine zQ (fun a ha601 => ?_)
     exact ⟨((), A563), ha601.sb, ⟨(h570 (zK hle568 hc573)).symm, hH, hr554⟩⟩
    rintro ⟨s553, A559⟩ w556 ⟨rfl, hH560, hk557⟩ a ha558
    rw [Lp.andThen_fin] at ho104
    replace h_people := Sl.tr h_people hk557; replace h_cals := Sl.tr h_cals hk557; replace h_steps := Sl.tr h_steps hk557; replace h322 := Sl.tr h322 hk557; replace h324 := Sl.tr h324 hk557; replace h326 := Sl.tr h326 hk557; replace h330 := Sl.tr h330 hk557; replace h332 := Sl.tr h332 hk557; replace hK := Tr.trans hK hk557; replace hr106 := Tr.trans hr106 hk557; replace hB := Nat.le_trans hB hk557.ex.size
    replace hA := hk557.new; replace hH := hH560
    refine C_at (n := ⟨192, [], none⟩) (fun _ _ => rfl) ?_ ha558
    refine Sr (Mm (Mm (Mm (Mm (Mm (Mm ?_))))))
    replace hH := Hf 4 (Hf 4 (Hf 4 (Hf 5 hH)))
    obtain ⟨x603, hx603, ho104⟩ := Bs ho104
    refine Vc call15 (zcV (Dw := Dw) w556 hB hA s317.2.2.1 b23 v321 h322 v323 h324 v325 h326 v327 v329 h330 v331 h332 m37 people v_people h_people cals v_cals h_cals steps v_steps h_steps s317.2.2.2 b43 (w64 (s77.2.1 + x125)) hH hx603) ?_
    rintro _ w604 ⟨A605, rfl, hH606, ht607⟩
    replace hK := Tt hK ht607; replace hr106 := Tt hr106 ht607
    obtain ⟨h322, h324, h326, h330, h332⟩ := T5 ht607 h322 h324 h326 h330 h332
    replace hH := hH606
    refine Vy (Zs rfl) (To ?_)
    refine Cc (fun hc608 => ?_) fun hc608 => ?_
    ·rw [if_pos hc608] at ho104
     refine Sr (As (To ?_))
     obtain rfl := Oi ho104
     rw [Lp.andThen_rt] at h97
     obtain rfl := Oi h97
     obtain rfl := (h98 : Lp.rt _ = _)
     rw [Lp.andThen_rt] at hm
     obtain rfl := Oi hm
     refine Rt (Res.one results3 rfl) ?_
     exact ⟨rfl, hK.kp⟩
    rw [if_neg (nt hc608)] at ho104
    obtain rfl := Oi ho104
    refine qL (fun a ha609 => ?_)
    replace hH := Hd 5 (Hf 5 (Hf 3 (Hf 2 (Hf 2 (Hf 2 hH)))))
    exact ⟨((w64 (s77.2.1 + x125), s77.2.2.1, s317.2.2.2, s317.2.2.1), v321, v323, v325, v327, v329, v331, A605), ha609.sb, ⟨rfl, h322, h324, h326, h330, h332, hH, hr106⟩⟩
   rintro ⟨s105, v107, v109, v111, v113, v115, v117, A123⟩ w120 ⟨rfl, h108, h110, h112, h116, h118, hH124, hk121⟩ a ha122
   rw [Lp.andThen_fin] at h97
   replace h80 := Sl.tr h80 hk121; replace hr55 := Tr.trans hr55 hk121; replace hA := hk121.new; replace hH := hH124
   refine C_at (n := ⟨192, [], none⟩) (fun _ _ => rfl) ?_ ha122
   refine zo (Mm ?_)
   obtain ⟨x610, hx610, h97⟩ := Bs h97
   obtain ⟨v611, h612, h612y⟩ := zfK hx610 h80
   refine Vy (zej h612y underlying26 sizeOf3 rfl rfl) (As ?_)
   obtain rfl := Oi h97
   refine zn (fun a ha613 => ?_)
   exact ⟨(x610, s105.1, s105.2.1, s105.2.2.1, s105.2.2.2), h98, ⟨(v611, v107, v109, v111, v113, v115, v117, A123), ha613.sb, ⟨h612, h108, h110, h112, h116, h118, hH, hr55⟩⟩⟩
  rw [if_neg (nt hc103)] at h97
  obtain rfl := Oi h97
  refine zQ (fun a ha614 => ?_)
  exact ⟨((s77.1, s77.2.1, s77.2.2.1, s77.2.2.2.1, s77.2.2.2.2), v79, v81, v83, v85, v87, v89, v91, A94), ha614.sub trivial, ⟨h98.symm, h80, h82, h84, h86, h90, h92, hH, hr55⟩⟩
 rintro ⟨s54, v60, v62, v64, v66, v68, v70, v72, A75⟩ w57 ⟨rfl, h61, h63, h65, h67, h71, h73, hH76, hk58⟩ a ha59
 rw [Lp.andThen_fin] at hm
 replace hK := Tr.trans hK hk58; replace hA := hk58.new; replace hH := hH76
 refine C_at (n := ⟨192, [], none⟩) (fun _ _ => rfl) ?_ ha59
 refine Sr (As (To ?_))
 obtain rfl := Oi hm
 refine Rt (Res.one results3 rfl) ?_
 exact ⟨rfl, hK.kp⟩
end Go.Proofs.YtiblagcmjobknaaGreatDoor.W
