import Derived.Test.YtiblagcmjobknaaGreatDoorTopTakenW2
namespace Go.Proofs.YtiblagcmjobknaaGreatDoor.W
open Go Go.RowKit Go.Pu Go.Gw Go.Proofs Go.Proofs.YtiblagcmjobknaaGreatDoor.M
set_option linter.unusedVariables false
set_option linter.unusedSimpArgs false
variable {Dw : Prop}
set_option maxHeartbeats 4000000
set_option maxRecDepth 4000
open Tryz
theorem zaY (w : World) {A : Nat → Prop} {B : Nat} (hB : B ≤ w.heap.size) (hA : ∀ b, w.heap.size ≤ b → A b) (r_ : ze) (b_r_ : Nat) (v_r_0 : Value) (h_r_0 : Sl A w v_r_0 r_.assigner.people) (v_r_1 : Value) (h_r_1 : Sl A w v_r_1 r_.assigner.cals) (v_r_2 : Value) (h_r_2 : Sl A w v_r_2 r_.assigner.steps) (v_r_3 : Value) (v_r_4 : Value) (h_r_4 : Sl A w v_r_4 r_.waiting) (v_r_5 : Value) (h_r_5 : Sl A w v_r_5 r_.held) (m_r_0 : Nat) (m : Int) {L : List Ob} (hH : Hp B A w (obC b_r_ [v_r_0, v_r_1, v_r_2, v_r_3, Ii r_.now, v_r_4, v_r_5, .map (some m_r_0)] 58 :: o_4 v_r_3 r_.assigner.away :: obRM (κ := Int) (α := za) m_r_0 r_.work :: L)) {r : ((List zb) × ze)} (hm : qr r_ m = some r) : Ret prog 57 #[Pt b_r_, Ii m] w fun v w' => ∃ s0, ∃ u1_0, ∃ u1_1, ∃ u1_2, ∃ u1_3, ∃ u1_4, ∃ u1_5, ∃ A1 : Nat → Prop, v = s0 ∧ Sl A1 w' s0 r.1 ∧ Sl A1 w' u1_0 r.2.assigner.people ∧ Sl A1 w' u1_1 r.2.assigner.cals ∧ Sl A1 w' u1_2 r.2.assigner.steps ∧ Sl A1 w' u1_4 r.2.waiting ∧ Sl A1 w' u1_5 r.2.held ∧ Hp B A1 w' (obC b_r_ [u1_0, u1_1, u1_2, u1_3, Ii r.2.now, u1_4, u1_5, .map (some m_r_0)] 58 :: o_4 u1_3 r.2.assigner.away :: obRM (κ := Int) (α := za) m_r_0 r.2.work :: L) ∧ Tr Dw B A w A1 w' := by
 unfold qr at hm
 refine enter func57 rfl ntmps57 rfl ?_
 have hK : Tr Dw B A w A w := Tr.refl (Dw := Dw) hA
 refine Sr (As (To ?_))
 refine zh (Sr (Mm (Nc (Vy (Fc 5 underlying58 rfl sizeOf25 rfl rfl) (Ld (Hc 5 0 hH rfl rfl) isAgg25 (Vy (zA h_r_4 rfl underlying25 rfl) (Vy (ql rfl rfl) (To ?_))))))))
 refine Cc (fun hc14 => ?_) fun hc14 => ?_
 ·rw [if_pos hc14] at hm
  refine Sr (As (To ?_))
  obtain rfl := Oi hm
  refine Rt (Res.one results57 rfl) ?_
  exact ⟨.slice none 0 0, v_r_0, v_r_1, v_r_2, v_r_3, v_r_4, v_r_5, A, rfl, Sl.nil, h_r_0, h_r_1, h_r_2, h_r_4, h_r_5, hH, hK⟩
 rw [if_neg (nt hc14)] at hm
 refine Sk ?_
 refine zh ?_
 refine qX (Dw := Dw) A 18 [(1, 0), (1, 1), (1, 2), (1, 3), (1, 4), (1, 5), (0, 6), (1, 7), (1, 8), (1, 9), (0, 10), (1, 11), (3, 12), (1, 13), (1, 14), (1, 15), (1, 16), (1, 17)] zH (by kernel_rfl) (fun w15 hk16 => ?_)
 have ht17 := Kp.tr hk16 hA hB; replace hH := Hp.kp hH hk16
 obtain ⟨h_r_0, h_r_1, h_r_2, h_r_4, h_r_5, hK, hB, hA⟩ := U5 ht17 hK hB h_r_0 h_r_1 h_r_2 h_r_4 h_r_5
 refine zI rfl (Qm (zB (zI rfl (Qn (zB (zI rfl (Qv (fun w' hw' => Fc 0 underlying58 rfl sizeOf56 rfl rfl) (zB (zI rfl ?_)))))))))
 refine Qm (zB (zI rfl (Qn (zB (zI rfl (Qv (fun w' hw' => Fc 6 underlying58 rfl sizeOf34 rfl rfl) (zB (qF rfl (Qc (Hc 6 0 hH rfl rfl) isAgg34 ?_)))))))))
 refine zB (zI rfl (Qm (zB (zI rfl (Qn (zB (zI rfl (Qv (fun w' hw' => Fc 5 underlying58 rfl sizeOf25 rfl rfl) (zB ?_)))))))))
 refine qF rfl (Qc (Hc 5 0 hH rfl rfl) isAgg25 (zB (zI rfl (Qm (zB ?_)))))
 refine qw (k := 1) rfl ?_
 replace hH := Hf 2 (Hf 2 (Hf 2 hH))
 obtain ⟨x18, hx18, hm⟩ := Bs hm
 refine Vc call86 (zcm (Dw := Dw) w15 hB hA r_ b_r_ v_r_0 h_r_0 v_r_1 h_r_1 v_r_2 h_r_2 v_r_3 v_r_4 h_r_4 v_r_5 h_r_5 m_r_0 r_.held v_r_5 h_r_5 r_.waiting v_r_4 h_r_4 m hH hx18) ?_
 rintro _ w23 ⟨v19, v21, A24, rfl, hH25, ht26⟩
 obtain ⟨h_r_5, h_r_0, h_r_1, h_r_2, hK, hB, hA⟩ := U4 ht26 hK hB h_r_5 h_r_0 h_r_1 h_r_2
 replace hH := hH25
 refine zeC (XA.tr (Dw := Dw) ht26) ?_
 refine zI rfl (Qm (zB (zI rfl (Qv (fun w' hw' => zD rfl rfl) (zB (zI rfl (Qv (fun w' hw' => zD rfl rfl) (zB (zI rfl ?_)))))))))
 refine Qa (zB (zI rfl (Qa (zB ?_))))
 refine jC ?_
 show V _ _ _ _ [] _ _
 refine To ?_
 refine Sr (Mm (Mm (Nc (Vy (Fc 6 underlying58 rfl sizeOf34 rfl rfl) (Ld (Hc 6 2 hH rfl rfl) isAgg34 (Mm ?_))))))
 obtain ⟨A27, ht28, h29, hH30⟩ := Hp.freeze (Dw := Dw) (α := zb) (v := v19) (l := x18.1) hH (i := 0) rfl hA
 obtain ⟨h_r_5, h_r_0, h_r_1, h_r_2, hK, hB, hA⟩ := U4 ht28 hK hB h_r_5 h_r_0 h_r_1 h_r_2
 replace hH := hH30
 refine zX (Dw := Dw) (cells := #[v_r_5, v19]) (l := ([r_.held, x18.1] : List (List zb))) (len := 2) underlying185 sizeOf34 zeroValue34 rfl (by obtain ⟨a36, c37, e38, _⟩ := Sl.form h_r_5; subst e38; obtain ⟨a39, c40, e41, _⟩ := Sl.form h29; subst e41; kernel_rfl) (show (2 * 1 : Nat) ≠ 0 by decide) (show (2 * 1 : Nat) ≤ 2 ^ 24 by decide) hA ⟨[v_r_5], _, rfl, ⟨_, rfl, h_r_5⟩, ⟨[v19], _, rfl, ⟨_, rfl, h29⟩, rfl⟩⟩ rfl rfl ?_
 intro v32 w33 hk35 h34
 have ht42 := Kp.tr hk35 hA hB; replace hH := Hp.kp hH hk35
 obtain ⟨h29, h_r_0, h_r_1, h_r_2, hK, hB, hA⟩ := U4 ht42 hK hB h29 h_r_0 h_r_1 h_r_2
 obtain ⟨x43, hx43, hm⟩ := Bs hm
 refine Vc call87 (JP (Dw := Dw) w33 hA ([r_.held, x18.1] : List (List zb)) v32 h34 hx43) ?_
 rintro v44 w46 ⟨_, rfl, h45, hk47⟩
 obtain ⟨A48, ht49, hH50⟩ := Hp.addOwnd (Dw := Dw) hH hB hA hk47 h45
 obtain ⟨h29, h_r_0, h_r_1, h_r_2, hK, hB, hA⟩ := U4 ht49 hK hB h29 h_r_0 h_r_1 h_r_2
 replace hH := hH50
 refine Nc (Vy (Fc 6 underlying58 rfl sizeOf34 rfl rfl) ?_)
 have h56 := Sl.oc (Hp.any (α := zb) (e := 46) (v := v44) (l := x43) hH (i := 0) rfl)
 refine Sc Dw 6 [v_r_0, v_r_1, v_r_2, v_r_3, Ii r_.now, v_r_4, v44, .map (some m_r_0)] 2 hH h56 sizeOf34 hB hA ?_
 intro w51 hH52 ht53
 obtain ⟨h29, h_r_0, h_r_1, h_r_2, hK, hB, hA⟩ := U4 ht53 hK hB h29 h_r_0 h_r_1 h_r_2
 replace hH := hH52
 refine To ?_
 refine Sr (Mm (Mm (Nc (Vy (Fc 5 underlying58 rfl sizeOf25 rfl rfl) ?_))))
 have h62 := Sl.oc (Hp.any (α := za) (e := 38) (v := v21) (l := x18.2) hH (i := 1) rfl)
 refine Sc Dw 5 [v_r_0, v_r_1, v_r_2, v_r_3, Ii r_.now, v21, v44, .map (some m_r_0)] 2 hH h62 sizeOf25 hB hA ?_
 intro w57 hH58 ht59
 replace hK := Tt hK ht59; replace hA := ht59.new
 obtain ⟨h29, h_r_0, h_r_1, h_r_2⟩ := T4 ht59 h29 h_r_0 h_r_1 h_r_2
 replace hH := hH58
 refine To ?_
 refine Sr (Mm (As (To ?_)))
 obtain rfl := Oi hm
 obtain ⟨A63, ht64, h65, hH66⟩ := Hp.freeze (Dw := Dw) (α := za) (v := v21) (l := x18.2) hH (i := 1) rfl hA
 replace hK := Tt hK ht64; replace hA := ht64.new
 obtain ⟨h29, h_r_0, h_r_1, h_r_2⟩ := T4 ht64 h29 h_r_0 h_r_1 h_r_2
 replace hH := hH66
 obtain ⟨A68, ht69, h70, hH71⟩ := Hp.freeze (Dw := Dw) (α := zb) (v := v44) (l := x43) hH (i := 0) rfl hA
 replace hK := Tt hK ht69
 obtain ⟨h29, h65, h_r_0, h_r_1, h_r_2⟩ := T5 ht69 h29 h65 h_r_0 h_r_1 h_r_2
 replace hH := hH71
 refine Rt (Res.one results57 rfl) ?_
 exact ⟨v19, v_r_0, v_r_1, v_r_2, v_r_3, v21, v44, A68, rfl, h29, h_r_0, h_r_1, h_r_2, h65, h70, hH, hK⟩
theorem QR (w : World) {A : Nat → Prop} {B : Nat} (hB : B ≤ w.heap.size) (hA : ∀ b, w.heap.size ≤ b → A b) (r_ : ze) (b_r_ : Nat) (v_r_0 : Value) (h_r_0 : Sl A w v_r_0 r_.assigner.people) (v_r_1 : Value) (h_r_1 : Sl A w v_r_1 r_.assigner.cals) (v_r_2 : Value) (h_r_2 : Sl A w v_r_2 r_.assigner.steps) (v_r_3 : Value) (v_r_4 : Value) (h_r_4 : Sl A w v_r_4 r_.waiting) (v_r_5 : Value) (h_r_5 : Sl A w v_r_5 r_.held) (m_r_0 : Nat) (m : Int) (do_ : ze → Option (Int × ze)) (do__f : FuncId) (do__a do__c : Array Value) (do__Y : Ob) (do__call : ∀ (args : Array Value) (w : World), (callFunc do__f args).run prog w = .ok (.enter do__f args) w) (do__spec : ∀ (w1 : World) (A1 : Nat → Prop) (L1 : List Ob) (R : ze) (u0 : Value) (gu0 : Sl A1 w1 u0 R.assigner.people) (u1 : Value) (gu1 : Sl A1 w1 u1 R.assigner.cals) (u2 : Value) (gu2 : Sl A1 w1 u2 R.assigner.steps) (u3 : Value) (u4 : Value) (gu4 : Sl A1 w1 u4 R.waiting) (u5 : Value) (gu5 : Sl A1 w1 u5 R.held) (r : (Int × ze)), B ≤ w1.heap.size → (∀ b, w1.heap.size ≤ b → A1 b) → Tr Dw B A w A1 w1 → Hp B A1 w1 (obC b_r_ [u0, u1, u2, u3, Ii R.now, u4, u5, .map (some m_r_0)] 58 :: o_4 u3 R.assigner.away :: obRM (κ := Int) (α := za) m_r_0 R.work :: do__Y :: L1) → do_ R = some r → Ret prog do__f (do__a ++ #[] ++ do__c) w1 fun v w' => ∃ z0, ∃ z1, ∃ z2, ∃ z3, ∃ z4, ∃ z5, ∃ A2 : Nat → Prop, v = Ii r.1 ∧ Sl A2 w' z0 r.2.assigner.people ∧ Sl A2 w' z1 r.2.assigner.cals ∧ Sl A2 w' z2 r.2.assigner.steps ∧ Sl A2 w' z4 r.2.waiting ∧ Sl A2 w' z5 r.2.held ∧ Hp B A2 w' (obC b_r_ [z0, z1, z2, z3, Ii r.2.now, z4, z5, .map (some m_r_0)] 58 :: o_4 z3 r.2.assigner.away :: obRM (κ := Int) (α := za) m_r_0 r.2.work :: do__Y :: L1) ∧ Tr Dw B A1 w1 A2 w') {L : List Ob} (hH : Hp B A w (obC b_r_ [v_r_0, v_r_1, v_r_2, v_r_3, Ii r_.now, v_r_4, v_r_5, .map (some m_r_0)] 58 :: o_4 v_r_3 r_.assigner.away :: obRM (κ := Int) (α := za) m_r_0 r_.work :: do__Y :: L)) {r : ((List zb) × Int × ze)} (hm : ZU r_ m do_ = some r) : Ret prog 27 #[Pt b_r_, Ii m, .func (.func do__f) do__a do__c] w fun v w' => ∃ s0, ∃ u1_0, ∃ u1_1, ∃ u1_2, ∃ u1_3, ∃ u1_4, ∃ u1_5, ∃ A1 : Nat → Prop, v = .tuple #[s0, Ii r.2.1] ∧ Sl A1 w' u1_0 r.2.2.assigner.people ∧ Sl A1 w' u1_1 r.2.2.assigner.cals ∧ Sl A1 w' u1_2 r.2.2.assigner.steps ∧ Sl A1 w' u1_4 r.2.2.waiting ∧ Sl A1 w' u1_5 r.2.2.held ∧ Hp B A1 w' (o_46 s0 r.1 :: obC b_r_ [u1_0, u1_1, u1_2, u1_3, Ii r.2.2.now, u1_4, u1_5, .map (some m_r_0)] 58 :: o_4 u1_3 r.2.2.assigner.away :: obRM (κ := Int) (α := za) m_r_0 r.2.2.work :: do__Y :: L) ∧ Tr Dw B A w A1 w' := by
 unfold ZU at hm
 refine enter func27 rfl ntmps27 rfl ?_
 have hK : Tr Dw B A w A w := Tr.refl (Dw := Dw) hA
 refine Sr (As (As (To ?_)))
 refine zh (Sr (Mm ?_))
 refine Vc call52 (Zq w m 0 3000000) ?_
 rintro _ _ ⟨rfl, rfl⟩
 refine Vy (Zs rfl) (To ?_)
 refine Cc (fun hc14 => ?_) fun hc14 => ?_
 ·rw [if_pos hc14] at hm
  refine Sr (As (As (To ?_)))
  obtain rfl := Oi hm
  replace hH : Hp B A w (o_46 (.slice none 0 0) ([] : (List zb)) :: obC b_r_ [v_r_0, v_r_1, v_r_2, v_r_3, Ii r_.now, v_r_4, v_r_5, .map (some m_r_0)] 58 :: o_4 v_r_3 r_.assigner.away :: obRM (κ := Int) (α := za) m_r_0 r_.work :: do__Y :: L) := Hp.addNil (α := zb) (e := 46) hH
  refine Rt (Res.two results27 rfl rfl) ?_
  exact ⟨.slice none 0 0, v_r_0, v_r_1, v_r_2, v_r_3, v_r_4, v_r_5, A, rfl, h_r_0, h_r_1, h_r_2, h_r_4, h_r_5, hH, hK⟩
 rw [if_neg (nt hc14)] at hm
 refine Sk ?_
 refine zh (Sr (Mm (Mm (Nc (Vy (Fc 4 underlying58 rfl sizeOf3 rfl rfl) (Ld (Hc 4 0 hH rfl rfl) isAgg3 (Vy (zR rfl rfl) (To ?_))))))))
 refine Cc (fun hc15 => ?_) fun hc15 => ?_
 ·rw [if_pos hc15] at hm
  refine Sr (As (As (To ?_)))
  obtain rfl := Oi hm
  replace hH : Hp B A w (o_46 (.slice none 0 0) ([] : (List zb)) :: obC b_r_ [v_r_0, v_r_1, v_r_2, v_r_3, Ii r_.now, v_r_4, v_r_5, .map (some m_r_0)] 58 :: o_4 v_r_3 r_.assigner.away :: obRM (κ := Int) (α := za) m_r_0 r_.work :: do__Y :: L) := Hp.addNil (α := zb) (e := 46) hH
  refine Rt (Res.two results27 rfl rfl) ?_
  exact ⟨.slice none 0 0, v_r_0, v_r_1, v_r_2, v_r_3, v_r_4, v_r_5, A, rfl, h_r_0, h_r_1, h_r_2, h_r_4, h_r_5, hH, hK⟩
 rw [if_neg (nt hc15)] at hm
 refine Sk ?_
 refine zh ?_
 refine ZR (Dw := Dw) zH (by kernel_rfl) ?_
 refine Qm (Qn (Qv (fun w' hw' => Fc 5 underlying58 rfl sizeOf25 rfl rfl) (Qc (Hc 5 0 hH rfl rfl) isAgg25 (Qm (Qn (Qv (fun w' hw' => Fc 6 underlying58 rfl sizeOf34 rfl rfl) (Qc (Hc 6 0 hH rfl rfl) isAgg34 (Qa (Qa ?_)))))))))
 refine jR (fun _ _ => rfl) (fun w17 hk18 => ?_)
 have ht19 := Kp.tr hk18 hA hB; replace hH := Hp.kp hH hk18
 obtain ⟨h_r_4, h_r_5, h_r_0, h_r_1, h_r_2, hK, hB, hA⟩ := U5 ht19 hK hB h_r_4 h_r_5 h_r_0 h_r_1 h_r_2
 refine Sr (As (To ?_))
 refine zh (Sr (Mm (Mm (Nc (Vy (Fc 4 underlying58 rfl sizeOf3 rfl rfl) (Ld (Hc 4 0 hH rfl rfl) isAgg3 ?_))))))
 replace hH := Hf 2 (Hf 2 (Hf 2 hH))
 obtain ⟨x20, hx20, hm⟩ := Bs hm
 refine Vc call56 (zaX (Dw := Dw) w17 hB hA r_ b_r_ v_r_0 h_r_0 v_r_1 h_r_1 v_r_2 h_r_2 v_r_3 v_r_4 h_r_4 v_r_5 h_r_5 m_r_0 r_.now hH hx20) ?_
 rintro _ w21 ⟨A22, rfl, hH23, ht24⟩
 obtain ⟨h_r_4, h_r_5, h_r_0, h_r_1, h_r_2, hK, hB, hA⟩ := U5 ht24 hK hB h_r_4 h_r_5 h_r_0 h_r_1 h_r_2
 replace hH := hH23
 refine As (To ?_)
 replace hH : Hp B A22 w21 (o_46 (.slice none 0 0) ([] : (List zb)) :: obC b_r_ [v_r_0, v_r_1, v_r_2, v_r_3, Ii r_.now, v_r_4, v_r_5, .map (some m_r_0)] 58 :: o_4 v_r_3 r_.assigner.away :: obRM (κ := Int) (α := za) m_r_0 r_.work :: do__Y :: L) := Hp.addNil (α := zb) (e := 46) hH
 obtain ⟨o25, ho25, hm⟩ := Bs hm
 refine zu (ι := (((List zb) × Int × ze) × Value × Value × Value × Value × Value × Value × Value × (Nat → Prop))) (fun ⟨s26, v32, v34, v36, v38, v40, v42, v44, A47⟩ => [(0, Pt b_r_), (1, Ii m), (2, .func (.func do__f) do__a do__c), (8, v_r_4), (9, v_r_5), (10, v32)]) (fun ⟨s26, v32, v34, v36, v38, v40, v42, v44, A47⟩ => fun w' => o25 = .fin s26 ∧ Sl A47 w' v34 s26.2.2.assigner.people ∧ Sl A47 w' v36 s26.2.2.assigner.cals ∧ Sl A47 w' v38 s26.2.2.assigner.steps ∧ Sl A47 w' v42 s26.2.2.waiting ∧ Sl A47 w' v44 s26.2.2.held ∧ Hp B A47 w' (o_46 v32 s26.1 :: obC b_r_ [v34, v36, v38, v40, Ii s26.2.2.now, v42, v44, .map (some m_r_0)] 58 :: o_4 v40 s26.2.2.assigner.away :: obRM (κ := Int) (α := za) m_r_0 s26.2.2.work :: do__Y :: L) ∧ Tr Dw B A22 w21 A47 w') ?_ ?_
 ·refine zl ?_
  refine zbd ho25 (fun s49 a w' => ∃ i : (Value × Value × Value × Value × Value × Value × Value × (Nat → Prop)), Has ⟨73, [], none⟩ a ([(0, Pt b_r_), (1, Ii m), (2, .func (.func do__f) do__a do__c), (8, v_r_4), (9, v_r_5), (10, i.1), (11, Ii s49.2.1)]) ∧ Sl i.2.2.2.2.2.2.2 w' i.2.1 s49.2.2.assigner.people ∧ Sl i.2.2.2.2.2.2.2 w' i.2.2.1 s49.2.2.assigner.cals ∧ Sl i.2.2.2.2.2.2.2 w' i.2.2.2.1 s49.2.2.assigner.steps ∧ Sl i.2.2.2.2.2.2.2 w' i.2.2.2.2.2.1 s49.2.2.waiting ∧ Sl i.2.2.2.2.2.2.2 w' i.2.2.2.2.2.2.1 s49.2.2.held ∧ Hp B i.2.2.2.2.2.2.2 w' (o_46 i.1 s49.1 :: obC b_r_ [i.2.1, i.2.2.1, i.2.2.2.1, i.2.2.2.2.1, Ii s49.2.2.now, i.2.2.2.2.2.1, i.2.2.2.2.2.2.1, .map (some m_r_0)] 58 :: o_4 i.2.2.2.2.1 s49.2.2.assigner.away :: obRM (κ := Int) (α := za) m_r_0 s49.2.2.work :: do__Y :: L) ∧ Tr Dw B A22 w21 i.2.2.2.2.2.2.2 w') (fun a ha => ⟨(.slice none 0 0, v_r_0, v_r_1, v_r_2, v_r_3, v_r_4, v_r_5, A22), ha.sb, ⟨h_r_0, h_r_1, h_r_2, h_r_4, h_r_5, hH, Tr.refl (Dw := Dw) hA⟩⟩) ?_
  rintro K s49 a w50 ⟨⟨v51, v53, v55, v57, v59, v61, v63, A66⟩, ha111, h54, h56, h58, h62, h64, hH67, hr27⟩ K74
  refine C_of ?_ ha111
  replace hB := Bx hB hr27; replace hA := hr27.new; replace hH := hH67
  obtain ⟨x68, h69, h70⟩ := K74
  refine zh (Sr (Mm (Vy (Qz rfl rfl) (Mm ?_))))
  refine ZP 4 (fun _ : Unit => [(0, Pt b_r_), (1, Ii m), (2, .func (.func do__f) do__a do__c), (8, v_r_4), (9, v_r_5), (10, v51), (11, Ii s49.2.1), (42, .bool ((decide ((0 : Int) ≤ s49.2.1)) && (decide (s49.2.1 ≤ m))))]) (fun _ w' => w50 = w') ?_ ?_
  ·simp only [List.take, List.drop]
   rcases Be (decide ((0 : Int) ≤ s49.2.1)) with hc75 | hc75
   ·refine Gf hc75 (Mm (Gf hc75 (Mm (Gf hc75 (Vy (JA rfl rfl) (Vy (zF rfl hc75 rfl) ?_))))))
    exact zn fun a ha => ⟨(), ha.sub ⟨rfl, rfl, rfl, rfl, rfl, rfl, rfl, (by rw [hc75]; rfl), trivial⟩, rfl⟩
   refine Gm hc75 (Gm hc75 (Gm hc75 (Vy (zG rfl hc75 rfl) ?_)))
   exact zn fun a ha => ⟨(), ha.sub ⟨rfl, rfl, rfl, rfl, rfl, rfl, rfl, (by rw [hc75]; rfl), trivial⟩, rfl⟩
  simp only [List.take, List.drop]
  rintro _ _ rfl
  refine To ?_
  refine Cc (fun hc77 => ?_) fun hc77 => ?_
  ·rw [if_pos hc77] at h69
   refine Sk ?_
   refine zh (zl (zo (Mm (Mm (Mm ?_)))))
   replace hH := Hf 3 (Hf 3 (Hf 3 hH))
   obtain ⟨x78, hx78, h69⟩ := Bs h69
   refine Vc call57 (zaY (Dw := Dw) w50 hB hA s49.2.2 b_r_ v53 h54 v55 h56 v57 h58 v59 v61 h62 v63 h64 m_r_0 s49.2.1 hH hx78) ?_
   rintro v79 w94 ⟨_, v81, v83, v85, v87, v89, v91, A95, rfl, h80, h82, h84, h86, h90, h92, hH96, ht97⟩
   replace hr27 := Tt hr27 ht97; replace hB := Bx hB ht97; replace hA := ht97.new; replace hH := hH96
   obtain ⟨x98, hx98, h69⟩ := Bs h69
   refine Zv (Dw := Dw) (e := 46) (v := v51) (l := s49.1) (ti := t46) (bytes := 32) (lim := 4398046511104) hH (i := 3) rfl h80 hx98 underlying34 jb rfl rfl rfl rfl (by decide) (by decide) (by decide) hB hA rfl rfl rfl ?_
   intro v99 w100 A101 hH102 ht103
   replace hr27 := Tt hr27 ht103; replace hB := Bx hB ht103; replace hA := ht103.new
   obtain ⟨h82, h84, h86, h90, h92⟩ := T5 ht103 h82 h84 h86 h90 h92
   replace hH := hH102
   refine As (To ?_)
   refine zo (Mm (Mm ?_))
   replace hH := Hf 2 (Hf 2 (Hf 2 hH))
   obtain ⟨x104, hx104, h69⟩ := Bs h69
   refine Vc call56 (zaX (Dw := Dw) w100 hB hA x78.2 b_r_ v81 h82 v83 h84 v85 h86 v87 v89 h90 v91 h92 m_r_0 s49.2.1 hH hx104) ?_
   rintro _ w105 ⟨A106, rfl, hH107, ht108⟩
   replace hr27 := Tt hr27 ht108
   obtain ⟨h82, h84, h86, h90, h92⟩ := T5 ht108 h82 h84 h86 h90 h92
   replace hH := hH107
   refine As ?_
   obtain rfl := Oi h69
   refine zn (fun a ha109 => ?_)
   replace hH := Hf 4 (Hf 3 (Hf 3 (Hf 3 (Hf 4 hH))))
   exact ⟨(x98, x104, x78.2), h70, ⟨(v99, v81, v83, v85, v87, v89, v91, A106), ha109.sb, ⟨h82, h84, h86, h90, h92, hH, hr27⟩⟩⟩
  rw [if_neg (nt hc77)] at h69
  obtain rfl := Oi h69
  refine zQ (fun a ha110 => ?_)
  exact ⟨((s49.1, s49.2.1, s49.2.2), v51, v53, v55, v57, v59, v61, v63, A66), ha110.sb, ⟨h70.symm, h54, h56, h58, h62, h64, hH, hr27⟩⟩
 rintro ⟨s26, v32, v34, v36, v38, v40, v42, v44, A47⟩ w29 ⟨rfl, h35, h37, h39, h43, h45, hH48, hk30⟩ a ha31
 rw [Lp.andThen_fin] at hm
 replace h_r_4 := Sl.tr h_r_4 hk30; replace h_r_5 := Sl.tr h_r_5 hk30; replace hK := Tr.trans hK hk30; replace hB := Nat.le_trans hB hk30.ex.size; replace hA := hk30.new; replace hH := hH48
 refine C_at (n := ⟨73, [], none⟩) (fun _ _ => rfl) ?_ ha31
 refine zh (Sr (Mm ?_))
 replace hH := Hf 4 (Hf 4 (Hf 4 (Hf 4 hH)))
 obtain ⟨x112, hx112, hm⟩ := Bs hm
 refine Vc do__call (do__spec w29 A47 _ s26.2.2 v34 h35 v36 h37 v38 h39 v40 v42 h43 v44 h45 x112 hB hA hK hH hx112) ?_
 rintro _ w126 ⟨v113, v115, v117, v119, v121, v123, A127, rfl, h114, h116, h118, h122, h124, hH128, ht129⟩
 obtain ⟨h_r_4, h_r_5, hK, hB, hA⟩ := U2 ht129 hK hB h_r_4 h_r_5
 replace hH := hH128
 refine As (To ?_)
 refine Sr (Mm (Vy (ZW rfl rfl) (To ?_)))
 refine Cc (fun hc130 => ?_) fun hc130 => ?_
 ·rw [if_pos hc130] at hm
  refine Sr (Mm (Mm (Mm (Mm (Nc (Vy (Fc 5 underlying58 rfl sizeOf25 rfl rfl) ?_))))))
  have h136 := Sl.oc h_r_4
  refine Sc Dw 5 [v113, v115, v117, v119, Ii x112.2.now, v_r_4, v123, .map (some m_r_0)] 0 hH h136 sizeOf25 hB hA ?_
  intro w131 hH132 ht133
  obtain ⟨h_r_4, h_r_5, h114, h116, h118, hK, hB, hA⟩ := U5 ht133 hK hB h_r_4 h_r_5 h114 h116 h118
  replace hH := hH132
  refine Nc (Vy (Fc 6 underlying58 rfl sizeOf34 rfl rfl) ?_)
  have h142 := Sl.oc h_r_5
  refine Sc Dw 6 [v113, v115, v117, v119, Ii x112.2.now, v_r_4, v_r_5, .map (some m_r_0)] 0 hH h142 sizeOf34 hB hA ?_
  intro w137 hH138 ht139
  replace hK := Tt hK ht139
  obtain ⟨h_r_4, h_r_5, h114, h116, h118⟩ := T5 ht139 h_r_4 h_r_5 h114 h116 h118
  replace hH := hH138
  refine To ?_
  refine Sr (Mm (As (As (To ?_))))
  obtain rfl := Oi hm
  replace hH : Hp B A127 w137 (o_46 (.slice none 0 0) ([] : (List zb)) :: obC b_r_ [v113, v115, v117, v119, Ii x112.2.now, v_r_4, v_r_5, .map (some m_r_0)] 58 :: o_4 v119 x112.2.assigner.away :: obRM (κ := Int) (α := za) m_r_0 x112.2.work :: do__Y :: o_46 v32 s26.1 :: L) := Hp.addNil (α := zb) (e := 46) hH
  replace hH := Hd 5 (Hf 4 (Hf 4 (Hf 4 (Hf 4 (Hf 4 hH)))))
  refine Rt (Res.two results27 rfl rfl) ?_
  exact ⟨.slice none 0 0, v113, v115, v117, v119, v_r_4, v_r_5, A127, rfl, h114, h116, h118, h_r_4, h_r_5, hH, hK⟩
 rw [if_neg (nt hc130)] at hm
 refine Sk ?_
 refine Sr (Mm (Mm (Nc (Vy (Fc 4 underlying58 rfl sizeOf3 rfl rfl) ?_))))
 refine ZG (Dw := Dw) (off := 4) (ds := [v113, v115, v117, v119, Ii m, v121, v123, .map (some m_r_0)]) hH (i := 0) rfl sizeOf3 rfl (Nat.le_of_ble_eq_true rfl) (by simp [Value.cells, Value.oneCell']) rfl hB hA rfl rfl ?_
 intro w143 hH144 ht145
 obtain ⟨h114, h116, h118, h122, h124, hK, hB, hA⟩ := U5 ht145 hK hB h114 h116 h118 h122 h124
 replace hH := hH144
 refine To ?_
 refine Sr (Mm (Mm (Mm ?_)))
 replace hH := Hf 2 (Hf 2 (Hf 2 hH))
 obtain ⟨x146, hx146, hm⟩ := Bs hm
 refine Vc call57 (zaY (Dw := Dw) w143 hB hA (⟨x112.2.assigner, m, x112.2.waiting, x112.2.held, x112.2.work⟩ : ze) b_r_ v113 h114 v115 h116 v117 h118 v119 v121 h122 v123 h124 m_r_0 m hH hx146) ?_
 rintro v147 w162 ⟨_, v149, v151, v153, v155, v157, v159, A163, rfl, h148, h150, h152, h154, h158, h160, hH164, ht165⟩
 obtain ⟨hK, hB, hA⟩ := U0 ht165 hK hB
 replace hH := hH164
 obtain ⟨x166, hx166, hm⟩ := Bs hm
 refine Zv (Dw := Dw) (e := 46) (v := v32) (l := s26.1) (ti := t46) (bytes := 32) (lim := 4398046511104) hH (i := 4) rfl h148 hx166 underlying34 jb rfl rfl rfl rfl (by decide) (by decide) (by decide) hB hA rfl rfl rfl ?_
 intro v167 w168 A169 hH170 ht171
 replace hK := Tt hK ht171
 obtain ⟨h150, h152, h154, h158, h160⟩ := T5 ht171 h150 h152 h154 h158 h160
 replace hH := hH170
 refine As (As (To ?_))
 obtain rfl := Oi hm
 replace hH := Hf 4 (Hf 3 (Hf 3 (Hf 3 (Hf 3 hH))))
 refine Rt (Res.two results27 rfl rfl) ?_
 exact ⟨v167, v149, v151, v153, v155, v157, v159, A169, rfl, h150, h152, h154, h158, h160, hH, hK⟩
theorem Qt (w : World) {A : Nat → Prop} (hA : ∀ b, w.heap.size ≤ b → A b) (s : (List za)) (v_s : Value) (h_s : Sl A w v_s s) (f : za → Option Bool) (f_f : FuncId) (f_a f_c : Array Value) (f_call : ∀ (args : Array Value) (w : World), (callFunc f_f args).run prog w = .ok (.enter f_f args) w) (f_spec : ∀ (w1 : World) (A1 : Nat → Prop), Tr Dw w.heap.size A w A1 w1 → (∀ b, w1.heap.size ≤ b → A1 b) → ∀ (y0 : za) (v1 : Value) (h2 : Sl A1 w1 v1 y0.needs) (r : Bool), f y0 = some r → Ret prog f_f (f_a ++ #[.agg #[Ii y0.ticket, Ii y0.weight, Ii y0.urgency, Ii y0.since, Ii y0.former, v1]] ++ f_c) w1 fun v w' => v = .bool r ∧ Kp Dw w1 w') {r : Int} (hm : Zj s f = some r) : Ret prog 61 #[v_s, .func (.func f_f) f_a f_c] w fun v w' => v = Ii r ∧ Kp Dw w w' := by
 unfold Zj at hm
 refine enter func61 rfl ntmps61 rfl ?_
 have hA0 := hA
 obtain ⟨hB, hK, hH⟩ := St (Dw := Dw) hA
 refine Sr (As (To ?_))
 refine zh (Sr (Mm (Vy (zA h_s rfl underlying25 rfl) (Mm (To ?_)))))
 have hn23 := Sl.le h_s
 obtain ⟨o3, ho3, hm⟩ := Bs hm
 refine zu (ι := (Unit × (Nat → Prop))) (fun ⟨s4, A10⟩ => []) (fun ⟨s4, A10⟩ => fun w' => o3 = .fin s4 ∧ Hp w.heap.size A10 w' ([]) ∧ Tr Dw w.heap.size A w A10 w') ?_ ?_
 ·refine zl ?_
  refine zS ho3 (fun k6 _ a w' => ∃ i : (Nat → Prop), Has ⟨19, [], none⟩ a ([(0, v_s), (1, .func (.func f_f) f_a f_c), (7, Ii (s.length : Int)), (8, Ii (k6 : Int))]) ∧ Hp w.heap.size i w' ([]) ∧ Tr Dw w.heap.size A w i w') (fun a ha => ⟨A, ha.sb, ⟨hH, Tr.refl (Dw := Dw) hA⟩⟩) ?_
  rintro K k6 _ a w13 ⟨A14, ha39, hH15, hr5⟩ hle19 K22 h21
  refine C_of ?_ ha39
  obtain ⟨h_s, hK, hB, hA⟩ := U1 hr5 hK hB h_s
  replace hH := hH15
  refine Sr (Vy (zR rfl rfl) (To ?_))
  refine zh ?_
  refine Cc (fun hc24 => ?_) fun hc24 => ?_
  ·have hlt20 := zL hc24
   obtain ⟨x16, h17, h18⟩ := K22 hlt20
   refine Sk ?_
   refine zh (zl (Sr (Mm (As (To ?_)))))
   refine Sr (Mm (Mm (Mm ?_)))
   obtain ⟨x25, hx25, h17⟩ := Bs h17
   refine zy h_s hx25 underlying25 sizeOf38 rfl rfl rfl ?_
   intro b26 o27 h28
   obtain ⟨v29, h31, h30⟩ := Zt h28
   refine Vy (zx h31 isAgg38 sizeOf38 rfl) ?_
   obtain ⟨x32, hx32, h17⟩ := Bs h17
   refine Vc f_call (f_spec w13 _ hK hA x25 v29 h30 _ hx32) ?_
   rintro _ w33 ⟨rfl, hk34⟩
   have ht35 := Kp.tr hk34 hA hB; replace hH := Hp.kp hH hk34; replace hK := Tt hK ht35; replace hr5 := Tt hr5 ht35
   refine To ?_
   refine Cc (fun hc36 => ?_) fun hc36 => ?_
   ·rw [if_pos hc36] at h17
    refine Sr (Mm (As (To ?_)))
    obtain rfl := Oi h17
    obtain rfl := (h18 : Lp.rt _ = _)
    rw [Lp.andThen_rt] at hm
    obtain rfl := Oi hm
    refine Rt (Res.one results61 rfl) ?_
    exact ⟨rfl, hK.kp⟩
   rw [if_neg (nt hc36)] at h17
   refine Sk ?_
   refine zo (Vy (zN rfl rfl) (Mm ?_))
   obtain rfl := Oi h17
   refine zn (fun a ha37 => ?_)
   exact ⟨(), hlt20, h18, ⟨A14, ha37.sub ⟨rfl, rfl, rfl, Ws hlt20 hn23, trivial⟩, ⟨hH, hr5⟩⟩⟩
  refine zQ (fun a ha38 => ?_)
  exact ⟨((), A14), ha38.sub trivial, ⟨(h21 (zK hle19 hc24)).symm, hH, hr5⟩⟩
 rintro ⟨s4, A10⟩ w7 ⟨rfl, hH11, hk8⟩ a ha9
 rw [Lp.andThen_fin] at hm
 replace hK := Tr.trans hK hk8; replace hA := hk8.new; replace hH := hH11
 refine C_at (n := ⟨19, [], none⟩) (fun _ _ => rfl) ?_ ha9
 refine Sr (As (To ?_))
 obtain rfl := Oi hm
 refine Rt (Res.one results61 rfl) ?_
 exact ⟨rfl, hK.kp⟩
theorem Ji (w : World) {A : Nat → Prop} (hA : ∀ b, w.heap.size ≤ b → A b) (s : (List za)) (v_s : Value) (h_s : Sl A w v_s s) (f : za → Option Bool) (f_f : FuncId) (f_a f_c : Array Value) (f_call : ∀ (args : Array Value) (w : World), (callFunc f_f args).run prog w = .ok (.enter f_f args) w) (f_spec : ∀ (w1 : World) (A1 : Nat → Prop), Tr Dw w.heap.size A w A1 w1 → (∀ b, w1.heap.size ≤ b → A1 b) → ∀ (y0 : za) (v1 : Value) (h2 : Sl A1 w1 v1 y0.needs) (r : Bool), f y0 = some r → Ret prog f_f (f_a ++ #[.agg #[Ii y0.ticket, Ii y0.weight, Ii y0.urgency, Ii y0.since, Ii y0.former, v1]] ++ f_c) w1 fun v w' => v = .bool r ∧ Kp Dw w1 w') {r : Bool} (hm : ZH s f = some r) : Ret prog 58 #[v_s, .func (.func f_f) f_a f_c] w fun v w' => v = .bool r ∧ Kp Dw w w' := by
 unfold ZH at hm
 refine enter func58 rfl ntmps58 rfl ?_
 have hA0 := hA
 obtain ⟨hB, hK, hH⟩ := St (Dw := Dw) hA
 refine Sr (As (To ?_))
 refine Sr (Mm (Mm ?_))
 obtain ⟨x3, hx3, hm⟩ := Bs hm
 refine Vc call61 (Qt (Dw := Dw) w hA s v_s h_s f f_f f_a f_c f_call (fun w1 A1 ht => f_spec w1 A1 (Tr.trans hK (Tr.lower (Dw := Dw) ht hB))) hx3) ?_
 rintro _ w4 ⟨rfl, hk5⟩
 have ht6 := Kp.tr hk5 hA hB; replace hK := Tt hK ht6
 refine Vy (Qz rfl rfl) (As (To ?_))
 obtain rfl := Oi hm
 refine Rt (Res.one results58 rfl) ?_
 exact ⟨rfl, hK.kp⟩
theorem zdX (w : World) {A : Nat → Prop} (hA : ∀ b, w.heap.size ≤ b → A b) (x : za) (v_x : Value) (h_x : Sl A w v_x x.needs) (p1 : za) (b_p1 : Nat) (h_p1 : El A w b_p1 0 p1) {r : Bool} (hm : jt x p1 = some r) : Ret prog 59 #[.agg #[Ii x.ticket, Ii x.weight, Ii x.urgency, Ii x.since, Ii x.former, v_x], Pt b_p1] w fun v w' => v = .bool r ∧ Kp Dw w w' := by
 unfold jt at hm
 refine enter func59 rfl ntmps59 rfl ?_
 have hA0 := hA
 obtain ⟨hB, hK, hH⟩ := St (Dw := Dw) hA
 refine Sr ?_
 refine Zy rfl rfl ?_
 intro b3 w4 h5
 have hk7 := h5.kp (Dw := Dw)
 have h6 : El (α := za) A w4 b3 0 x := h5.el hA ⟨[Ii x.ticket], _, rfl, rfl, ⟨[Ii x.weight], _, rfl, rfl, ⟨[Ii x.urgency], _, rfl, rfl, ⟨[Ii x.since], _, rfl, rfl, ⟨[Ii x.former], _, rfl, rfl, ⟨_, rfl, h_x⟩⟩⟩⟩⟩⟩
 have ht8 := Kp.tr hk7 hA hB; replace h_p1 := El.tr h_p1 ht8; replace hK := Tt hK ht8
 refine As (To ?_)
 refine Sr ?_
 have h9 := qR h6
 refine Fa underlying38 rfl sizeOf3 (Li h9 isAgg3 ?_)
 have h10 := qR h_p1
 refine Fa underlying38 rfl sizeOf3 (Li h10 isAgg3 (Vy (ql rfl rfl) (As (To ?_))))
 obtain rfl := Oi hm
 refine Rt (Res.one results59 rfl) ?_
 exact ⟨rfl, hK.kp⟩
theorem zbH (w : World) {A : Nat → Prop} (hA : ∀ b, w.heap.size ≤ b → A b) (l : (List za)) (v_l : Value) (h_l : Sl A w v_l l) {r : Int} (hm : jn l = some r) : Ret prog 29 #[v_l] w fun v w' => v = Ii r ∧ Kp Dw w w' := by
 unfold jn at hm
 refine enter func29 rfl ntmps29 rfl ?_
 have hA0 := hA
 obtain ⟨hB, hK, hH⟩ := St (Dw := Dw) hA
 refine Sr (As (To ?_))
 refine zh (Sr (Mm (Vy (zA h_l rfl underlying25 rfl) (Vy (qz rfl rfl) (To ?_)))))
 refine Cc (fun hc3 => ?_) fun hc3 => ?_
 ·rw [if_pos hc3] at hm
  refine Sr (As (To ?_))
  obtain rfl := Oi hm
  refine Rt (Res.one results29 rfl) ?_
  exact ⟨rfl, hK.kp⟩
 rw [if_neg (nt hc3)] at hm
 refine Sk ?_
 refine zh (Sr (Mm (Vy (zA h_l rfl underlying25 rfl) (Mm (To ?_)))))
 have hn25 := Sl.le h_l
 obtain ⟨o4, ho4, hm⟩ := Bs hm
 refine zu (ι := (Unit × (Nat → Prop))) (fun ⟨s5, A12⟩ => []) (fun ⟨s5, A12⟩ => fun w' => o4 = .fin s5 ∧ Hp w.heap.size A12 w' ([]) ∧ Tr Dw w.heap.size A w A12 w') ?_ ?_
 ·refine zl ?_
  refine zS ho4 (fun k7 _ a w' => ∃ i : (Nat → Prop), Has ⟨57, [], none⟩ a ([(0, v_l), (9, v_l), (10, Ii (l.length : Int)), (11, Ii (k7 : Int))]) ∧ Hp w.heap.size i w' ([]) ∧ Tr Dw w.heap.size A w i w') (fun a ha => ⟨A, ha.sb, ⟨hH, Tr.refl (Dw := Dw) hA⟩⟩) ?_
  rintro K k7 _ a w15 ⟨A16, ha88, hH17, hr6⟩ hle21 K24 h23
  refine C_of ?_ ha88
  obtain ⟨h_l, hK, hB, hA⟩ := U1 hr6 hK hB h_l
  replace hH := hH17
  refine Sr (Vy (zR rfl rfl) (To ?_))
  refine zh ?_
  refine Cc (fun hc26 => ?_) fun hc26 => ?_
  ·have hlt22 := zL hc26
   obtain ⟨x18, h19, h20⟩ := K24 hlt22
   refine Sk ?_
   refine zh (zl (Sr (Mm ?_)))
   obtain ⟨x27, hx27, h19⟩ := Bs h19
   refine zy h_l hx27 underlying25 sizeOf38 rfl rfl rfl ?_
   intro b28 o29 h30
   obtain ⟨v31, h33, h32⟩ := Zt h30
   refine Vy (zx h33 isAgg38 sizeOf38 rfl) ?_
   refine Zf zeroValue38 rfl ?_
   intro b34 w35 h36
   refine As ?_
   have h41 := Sl.oc h32
   refine Sn h36 sizeOf38 ?_
   intro w37 h38
   have hk43 := h38.kp (Dw := Dw)
   have h42 : El (α := za) A16 w37 b34 0 x27 := h38.el hA ⟨[Ii x27.ticket], _, rfl, rfl, ⟨[Ii x27.weight], _, rfl, rfl, ⟨[Ii x27.urgency], _, rfl, rfl, ⟨[Ii x27.since], _, rfl, rfl, ⟨[Ii x27.former], _, rfl, rfl, ⟨_, rfl, h32⟩⟩⟩⟩⟩⟩
   have ht44 := Kp.tr hk43 hA hB; replace hH := Hp.kp hH hk43; replace hr6 := Tt hr6 ht44
   obtain ⟨h_l, hK, hB, hA⟩ := U1 ht44 hK hB h_l
   refine To ?_
   refine zh (zl (Sr ?_))
   have h45 := qR h42
   refine Fa underlying38 rfl sizeOf3 (Li h45 isAgg3 ?_)
   refine Vc call52 (Zq w37 x27.ticket 1 400) ?_
   rintro _ _ ⟨rfl, rfl⟩
   refine Vy (Zs rfl) (As (To ?_))
   refine Cc (fun hc46 => ?_) fun hc46 => ?_
   ·rw [if_pos hc46] at h19
    refine Sr (As (To ?_))
    obtain rfl := Oi h19
    obtain rfl := (h20 : Lp.rt _ = _)
    rw [Lp.andThen_rt] at hm
    obtain rfl := Oi hm
    refine Rt (Res.one results29 rfl) ?_
    exact ⟨rfl, hK.kp⟩
   rw [if_neg (nt hc46)] at h19
   refine Sr (Mm (Mm ?_))
   obtain ⟨x47, hx47, h19⟩ := Bs h19
   obtain ⟨v48, h49, h49y⟩ := zfK hx47 h_l
   refine Vy (zjY h49y underlying25 sizeOf38 rfl rfl) (Vy (qk rfl rfl) ?_)
   obtain ⟨x51, hx51, h19⟩ := Bs h19
   refine Vc call58 (Ji (Dw := Dw) w37 hA x47 v48 h49 (fun y61 => jt y61 x27) 59 #[] #[Pt b34] call59 (fun w57 A58 ht59 h60 y52 v53 h54 r55 h56 => (zdX (Dw := Dw) w57 h60 y52 v53 h54 x27 b34 (El.tr h42 ht59) h56).mono (fun _ _ h => ⟨h.1, h.2⟩)) hx51) ?_
   rintro _ w62 ⟨rfl, hk63⟩
   have ht64 := Kp.tr hk63 hA hB; replace hH := Hp.kp hH hk63; replace h42 := El.tr h42 ht64; replace hr6 := Tt hr6 ht64
   obtain ⟨hK, hB, hA⟩ := U0 ht64 hK hB
   refine As (To ?_)
   refine Cc (fun hc65 => ?_) fun hc65 => ?_
   ·rw [if_pos hc65] at h19
    refine Sr (As (To ?_))
    obtain rfl := Oi h19
    obtain rfl := (h20 : Lp.rt _ = _)
    rw [Lp.andThen_rt] at hm
    obtain rfl := Oi hm
    refine Rt (Res.one results29 rfl) ?_
    exact ⟨rfl, hK.kp⟩
   rw [if_neg (nt hc65)] at h19
   refine Sr ?_
   have h66 := Jc h42
   refine Fa underlying38 rfl sizeOf3 (Li h66 isAgg3 ?_)
   refine Vc call52 (Zq w62 x27.weight 1 20) ?_
   rintro _ _ ⟨rfl, rfl⟩
   refine Vy (Zs rfl) (Mm ?_)
   refine ZP 5 (fun _ : Unit => [(0, v_l), (4, Pt b34), (9, v_l), (10, Ii (l.length : Int)), (11, Ii (k7 : Int)), (37, .bool ((!(zm x27.weight 1 20)) || (!(zm x27.urgency 0 9))))]) (fun _ w' => w62 = w') ?_ ?_
   ·simp only [List.take, List.drop]
    rcases Be (!(zm x27.weight 1 20)) with hc67 | hc67
    ·refine Gm hc67 (Gm hc67 (Gm hc67 (Gm hc67 (Vy (zF rfl hc67 rfl) ?_))))
     exact zn fun a ha => ⟨(), ha.sub ⟨rfl, rfl, rfl, rfl, rfl, (by rw [hc67]; rfl), trivial⟩, rfl⟩
    refine Gf hc67 ?_
    have h69 := zaO h42
    refine Fa underlying38 rfl sizeOf3 (Gf hc67 (Li h69 isAgg3 (Gf hc67 ?_)))
    refine Vc call52 (Zq w62 x27.urgency 0 9) ?_
    rintro _ _ ⟨rfl, rfl⟩
    refine Gf hc67 (Vy (Zs rfl) (Vy (zG rfl hc67 rfl) ?_))
    exact zn fun a ha => ⟨(), ha.sub ⟨rfl, rfl, rfl, rfl, rfl, (by rw [hc67]; rfl), trivial⟩, rfl⟩
   simp only [List.take, List.drop]
   rintro _ _ rfl
   refine Mm ?_
   refine ZP 5 (fun _ : Unit => [(0, v_l), (4, Pt b34), (9, v_l), (10, Ii (l.length : Int)), (11, Ii (k7 : Int)), (43, .bool (((!(zm x27.weight 1 20)) || (!(zm x27.urgency 0 9))) || (!(zm x27.since 0 3000000))))]) (fun _ w' => w62 = w') ?_ ?_
   ·simp only [List.take, List.drop]
    rcases Be (((!(zm x27.weight 1 20)) || (!(zm x27.urgency 0 9)))) with hc70 | hc70
    ·refine Gm hc70 (Gm hc70 (Gm hc70 (Gm hc70 (Vy (zF rfl hc70 rfl) ?_))))
     exact zn fun a ha => ⟨(), ha.sub ⟨rfl, rfl, rfl, rfl, rfl, (by rw [hc70]; rfl), trivial⟩, rfl⟩
    refine Gf hc70 ?_
    have h72 := Ja h42
    refine Fa underlying38 rfl sizeOf3 (Gf hc70 (Li h72 isAgg3 (Gf hc70 ?_)))
    refine Vc call52 (Zq w62 x27.since 0 3000000) ?_
    rintro _ _ ⟨rfl, rfl⟩
    refine Gf hc70 (Vy (Zs rfl) (Vy (zG rfl hc70 rfl) ?_))
    exact zn fun a ha => ⟨(), ha.sub ⟨rfl, rfl, rfl, rfl, rfl, (by rw [hc70]; rfl), trivial⟩, rfl⟩
   simp only [List.take, List.drop]
   rintro _ _ rfl
   refine Mm ?_
   refine ZP 5 (fun _ : Unit => [(0, v_l), (4, Pt b34), (9, v_l), (10, Ii (l.length : Int)), (11, Ii (k7 : Int)), (49, .bool ((((!(zm x27.weight 1 20)) || (!(zm x27.urgency 0 9))) || (!(zm x27.since 0 3000000))) || (!(zm x27.former 0 40))))]) (fun _ w' => w62 = w') ?_ ?_
   ·simp only [List.take, List.drop]
    rcases Be ((((!(zm x27.weight 1 20)) || (!(zm x27.urgency 0 9))) || (!(zm x27.since 0 3000000)))) with hc73 | hc73
    ·refine Gm hc73 (Gm hc73 (Gm hc73 (Gm hc73 (Vy (zF rfl hc73 rfl) ?_))))
     exact zn fun a ha => ⟨(), ha.sub ⟨rfl, rfl, rfl, rfl, rfl, (by rw [hc73]; rfl), trivial⟩, rfl⟩
    refine Gf hc73 ?_
    have h75 := zcw h42
    refine Fa underlying38 rfl sizeOf3 (Gf hc73 (Li h75 isAgg3 (Gf hc73 ?_)))
    refine Vc call52 (Zq w62 x27.former 0 40) ?_
    rintro _ _ ⟨rfl, rfl⟩
    refine Gf hc73 (Vy (Zs rfl) (Vy (zG rfl hc73 rfl) ?_))
    exact zn fun a ha => ⟨(), ha.sub ⟨rfl, rfl, rfl, rfl, rfl, (by rw [hc73]; rfl), trivial⟩, rfl⟩
   simp only [List.take, List.drop]
   rintro _ _ rfl
   refine As (To ?_)
   refine Cc (fun hc76 => ?_) fun hc76 => ?_
   ·rw [if_pos hc76] at h19
    refine Sr (As (To ?_))
    obtain rfl := Oi h19
    obtain rfl := (h20 : Lp.rt _ = _)
    rw [Lp.andThen_rt] at hm
    obtain rfl := Oi hm
    refine Rt (Res.one results29 rfl) ?_
    exact ⟨rfl, hK.kp⟩
   rw [if_neg (nt hc76)] at h19
   refine Sk ?_
   refine Sr ?_
   have h77 := jZ h42
   refine Fa underlying38 rfl sizeOf36 ?_
   obtain ⟨v78, h79, h80⟩ := El.list h77
   refine Ld h79 isAgg36 ?_
   obtain ⟨x81, hx81, h19⟩ := Bs h19
   refine Vc call60 (JS (Dw := Dw) w62 hA x27.needs v78 h80 hx81) ?_
   rintro _ w82 ⟨rfl, hk83⟩
   have ht84 := Kp.tr hk83 hA hB; replace hH := Hp.kp hH hk83; replace hK := Tt hK ht84; replace hr6 := Tt hr6 ht84
   refine As (To ?_)
   refine Sr (Mm (Vy (ZW rfl rfl) (To ?_)))
   refine Cc (fun hc85 => ?_) fun hc85 => ?_
   ·rw [if_pos hc85] at h19
    refine Sr (Mm (As (To ?_)))
    obtain rfl := Oi h19
    obtain rfl := (h20 : Lp.rt _ = _)
    rw [Lp.andThen_rt] at hm
    obtain rfl := Oi hm
    refine Rt (Res.one results29 rfl) ?_
    exact ⟨rfl, hK.kp⟩
   rw [if_neg (nt hc85)] at h19
   refine Sk ?_
   refine zo (Vy (zN rfl rfl) (Mm ?_))
   obtain rfl := Oi h19
   refine zn (fun a ha86 => ?_)
   exact ⟨(), hlt22, h20, ⟨A16, ha86.sub ⟨rfl, rfl, rfl, Ws hlt22 hn25, trivial⟩, ⟨hH, hr6⟩⟩⟩
  refine zQ (fun a ha87 => ?_)
  exact ⟨((), A16), ha87.sub trivial, ⟨(h23 (zK hle21 hc26)).symm, hH, hr6⟩⟩
 rintro ⟨s5, A12⟩ w9 ⟨rfl, hH13, hk10⟩ a ha11
 rw [Lp.andThen_fin] at hm
 replace hK := Tr.trans hK hk10; replace hA := hk10.new; replace hH := hH13
 refine C_at (n := ⟨57, [], none⟩) (fun _ _ => rfl) ?_ ha11
 refine Sr (As (To ?_))
 obtain rfl := Oi hm
 refine Rt (Res.one results29 rfl) ?_
 exact ⟨rfl, hK.kp⟩
theorem Jw (w : World) {A : Nat → Prop} (hA : ∀ b, w.heap.size ≤ b → A b) (s : (List zb)) (v_s : Value) (h_s : Sl A w v_s s) (f : zb → Option Bool) (f_f : FuncId) (f_a f_c : Array Value) (f_call : ∀ (args : Array Value) (w : World), (callFunc f_f args).run prog w = .ok (.enter f_f args) w) (f_spec : ∀ (w1 : World) (A1 : Nat → Prop), Tr Dw w.heap.size A w A1 w1 → (∀ b, w1.heap.size ≤ b → A1 b) → ∀ (y0 : zb) (r : Bool), f y0 = some r → Ret prog f_f (f_a ++ #[.agg #[Ii y0.ticket, Ii y0.person, Ii y0.weight, Ii y0.since]] ++ f_c) w1 fun v w' => v = .bool r ∧ Kp Dw w1 w') {r : Int} (hm : Zu s f = some r) : Ret prog 63 #[v_s, .func (.func f_f) f_a f_c] w fun v w' => v = Ii r ∧ Kp Dw w w' := by
 unfold Zu at hm
 refine enter func63 rfl ntmps63 rfl ?_
 have hA0 := hA
 obtain ⟨hB, hK, hH⟩ := St (Dw := Dw) hA
 refine Sr (As (To ?_))
 refine zh (Sr (Mm (Vy (zA h_s rfl underlying34 rfl) (Mm (To ?_)))))
 have hn23 := Sl.le h_s
 obtain ⟨o3, ho3, hm⟩ := Bs hm
 refine zu (ι := (Unit × (Nat → Prop))) (fun ⟨s4, A10⟩ => []) (fun ⟨s4, A10⟩ => fun w' => o3 = .fin s4 ∧ Hp w.heap.size A10 w' ([]) ∧ Tr Dw w.heap.size A w A10 w') ?_ ?_
 ·refine zl ?_
  refine zS ho3 (fun k6 _ a w' => ∃ i : (Nat → Prop), Has ⟨19, [], none⟩ a ([(0, v_s), (1, .func (.func f_f) f_a f_c), (7, Ii (s.length : Int)), (8, Ii (k6 : Int))]) ∧ Hp w.heap.size i w' ([]) ∧ Tr Dw w.heap.size A w i w') (fun a ha => ⟨A, ha.sb, ⟨hH, Tr.refl (Dw := Dw) hA⟩⟩) ?_
  rintro K k6 _ a w13 ⟨A14, ha37, hH15, hr5⟩ hle19 K22 h21
  refine C_of ?_ ha37
  obtain ⟨h_s, hK, hB, hA⟩ := U1 hr5 hK hB h_s
  replace hH := hH15
  refine Sr (Vy (zR rfl rfl) (To ?_))
  refine zh ?_
  refine Cc (fun hc24 => ?_) fun hc24 => ?_
  ·have hlt20 := zL hc24
   obtain ⟨x16, h17, h18⟩ := K22 hlt20
   refine Sk ?_
   refine zh (zl (Sr (Mm (As (To ?_)))))
   refine Sr (Mm (Mm (Mm ?_)))
   obtain ⟨x25, hx25, h17⟩ := Bs h17
   refine zy h_s hx25 underlying34 sizeOf46 rfl rfl rfl ?_
   intro b26 o27 h28
   obtain ⟨h29, _⟩ := qd h28
   refine Vy (zx h29 isAgg46 sizeOf46 rfl) ?_
   obtain ⟨x30, hx30, h17⟩ := Bs h17
   refine Vc f_call (f_spec w13 _ hK hA x25 _ hx30) ?_
   rintro _ w31 ⟨rfl, hk32⟩
   have ht33 := Kp.tr hk32 hA hB; replace hH := Hp.kp hH hk32; replace hK := Tt hK ht33; replace hr5 := Tt hr5 ht33
   refine To ?_
   refine Cc (fun hc34 => ?_) fun hc34 => ?_
   ·rw [if_pos hc34] at h17
    refine Sr (Mm (As (To ?_)))
    obtain rfl := Oi h17
    obtain rfl := (h18 : Lp.rt _ = _)
    rw [Lp.andThen_rt] at hm
    obtain rfl := Oi hm
    refine Rt (Res.one results63 rfl) ?_
    exact ⟨rfl, hK.kp⟩
   rw [if_neg (nt hc34)] at h17
   refine Sk ?_
   refine zo (Vy (zN rfl rfl) (Mm ?_))
   obtain rfl := Oi h17
   refine zn (fun a ha35 => ?_)
   exact ⟨(), hlt20, h18, ⟨A14, ha35.sub ⟨rfl, rfl, rfl, Ws hlt20 hn23, trivial⟩, ⟨hH, hr5⟩⟩⟩
  refine zQ (fun a ha36 => ?_)
  exact ⟨((), A14), ha36.sub trivial, ⟨(h21 (zK hle19 hc24)).symm, hH, hr5⟩⟩
 rintro ⟨s4, A10⟩ w7 ⟨rfl, hH11, hk8⟩ a ha9
 rw [Lp.andThen_fin] at hm
 replace hK := Tr.trans hK hk8; replace hA := hk8.new; replace hH := hH11
 refine C_at (n := ⟨19, [], none⟩) (fun _ _ => rfl) ?_ ha9
 refine Sr (As (To ?_))
 obtain rfl := Oi hm
 refine Rt (Res.one results63 rfl) ?_
 exact ⟨rfl, hK.kp⟩
theorem zcG (w : World) {A : Nat → Prop} (hA : ∀ b, w.heap.size ≤ b → A b) (h : zb) (p1 : Int) (b_p1 : Nat) (h_p1 : El A w b_p1 0 p1) {r : Bool} (hm : QH h p1 = some r) : Ret prog 64 #[.agg #[Ii h.ticket, Ii h.person, Ii h.weight, Ii h.since], Pt b_p1] w fun v w' => v = .bool r ∧ Kp Dw w w' := by
 unfold QH at hm
 refine enter func64 rfl ntmps64 rfl ?_
 have hA0 := hA
 obtain ⟨hB, hK, hH⟩ := St (Dw := Dw) hA
 refine Sr ?_
 refine Zy rfl rfl ?_
 intro b1 w2 h3
 have hk5 := h3.kp (Dw := Dw)
 have h4 : El (α := zb) A w2 b1 0 h := h3.el hA ⟨[Ii h.ticket], _, rfl, rfl, ⟨[Ii h.person], _, rfl, rfl, ⟨[Ii h.weight], _, rfl, rfl, rfl⟩⟩⟩
 have ht6 := Kp.tr hk5 hA hB; replace h_p1 := El.tr h_p1 ht6; replace hK := Tt hK ht6
 refine As (To ?_)
 refine Sr ?_
 have h7 := qv h4
 refine Fa underlying46 rfl sizeOf3 (Li h7 isAgg3 (Li h_p1 isAgg3 (Vy (ql rfl rfl) (As (To ?_)))))
 obtain rfl := Oi hm
 refine Rt (Res.one results64 rfl) ?_
 exact ⟨rfl, hK.kp⟩
theorem zaS (w : World) {A : Nat → Prop} {B : Nat} (hB : B ≤ w.heap.size) (hA : ∀ b, w.heap.size ≤ b → A b) (r_ : ze) (b_r_ : Nat) (v_r_0 : Value) (h_r_0 : Sl A w v_r_0 r_.assigner.people) (v_r_1 : Value) (h_r_1 : Sl A w v_r_1 r_.assigner.cals) (v_r_2 : Value) (h_r_2 : Sl A w v_r_2 r_.assigner.steps) (v_r_3 : Value) (v_r_4 : Value) (h_r_4 : Sl A w v_r_4 r_.waiting) (v_r_5 : Value) (h_r_5 : Sl A w v_r_5 r_.held) (m_r_0 : Nat) (ticket : Int) {L : List Ob} (hH : Hp B A w (obC b_r_ [v_r_0, v_r_1, v_r_2, v_r_3, Ii r_.now, v_r_4, v_r_5, .map (some m_r_0)] 58 :: o_4 v_r_3 r_.assigner.away :: obRM (κ := Int) (α := za) m_r_0 r_.work :: L)) {r : Int} (hm : qh r_ ticket = some r) : Ret prog 31 #[Pt b_r_, Ii ticket] w fun v w' => ∃ A1 : Nat → Prop, v = Ii r ∧ Hp B A1 w' (obC b_r_ [v_r_0, v_r_1, v_r_2, v_r_3, Ii r_.now, v_r_4, v_r_5, .map (some m_r_0)] 58 :: o_4 v_r_3 r_.assigner.away :: obRM (κ := Int) (α := za) m_r_0 r_.work :: L) ∧ Tr Dw B A w A1 w' := by
 unfold qh at hm
 refine enter func31 rfl ntmps31 rfl ?_
 have hK : Tr Dw B A w A w := Tr.refl (Dw := Dw) hA
 refine Sr ?_
 refine Zy rfl rfl ?_
 intro b14 w15 h16
 have hk18 := h16.kp (Dw := Dw)
 have h17 : El (α := Int) A w15 b14 0 ticket := h16.el hA rfl
 have ht19 := Kp.tr hk18 hA hB; replace hH := Hp.kp hH hk18
 obtain ⟨h_r_5, hK, hB, hA⟩ := U1 ht19 hK hB h_r_5
 refine As (To ?_)
 refine Sr (Mm (Nc (Vy (Fc 6 underlying58 rfl sizeOf34 rfl rfl) (Ld (Hc 6 0 hH rfl rfl) isAgg34 (Vy (qk rfl rfl) ?_)))))
 obtain ⟨x21, hx21, hm⟩ := Bs hm
 refine Vc call63 (Jw (Dw := Dw) w15 hA r_.held v_r_5 h_r_5 (fun y29 => QH y29 ticket) 64 #[] #[Pt b14] call64 (fun w25 A26 ht27 h28 y22 r23 h24 => (zcG (Dw := Dw) w25 h28 y22 ticket b14 (El.tr h17 ht27) h24).mono (fun _ _ h => ⟨h.1, h.2⟩)) hx21) ?_
 rintro _ w30 ⟨rfl, hk31⟩
 have ht32 := Kp.tr hk31 hA hB; replace hH := Hp.kp hH hk31; replace hK := Tt hK ht32
 refine As (To ?_)
 obtain rfl := Oi hm
 refine Rt (Res.one results31 rfl) ?_
 exact ⟨A, rfl, hH, hK⟩
theorem zcI (w : World) {A : Nat → Prop} (hA : ∀ b, w.heap.size ≤ b → A b) (w_ : za) (v_w_ : Value) (h_w_ : Sl A w v_w_ w_.needs) (p1 : Int) (b_p1 : Nat) (h_p1 : El A w b_p1 0 p1) {r : Bool} (hm : QI w_ p1 = some r) : Ret prog 62 #[.agg #[Ii w_.ticket, Ii w_.weight, Ii w_.urgency, Ii w_.since, Ii w_.former, v_w_], Pt b_p1] w fun v w' => v = .bool r ∧ Kp Dw w w' := by
 unfold QI at hm
 refine enter func62 rfl ntmps62 rfl ?_
 have hA0 := hA
 obtain ⟨hB, hK, hH⟩ := St (Dw := Dw) hA
 refine Sr ?_
 refine Zy rfl rfl ?_
 intro b3 w4 h5
 have hk7 := h5.kp (Dw := Dw)
 have h6 : El (α := za) A w4 b3 0 w_ := h5.el hA ⟨[Ii w_.ticket], _, rfl, rfl, ⟨[Ii w_.weight], _, rfl, rfl, ⟨[Ii w_.urgency], _, rfl, rfl, ⟨[Ii w_.since], _, rfl, rfl, ⟨[Ii w_.former], _, rfl, rfl, ⟨_, rfl, h_w_⟩⟩⟩⟩⟩⟩
 have ht8 := Kp.tr hk7 hA hB; replace h_p1 := El.tr h_p1 ht8; replace hK := Tt hK ht8
 refine As (To ?_)
 refine Sr ?_
 have h9 := qR h6
 refine Fa underlying38 rfl sizeOf3 (Li h9 isAgg3 (Li h_p1 isAgg3 (Vy (ql rfl rfl) (As (To ?_)))))
 obtain rfl := Oi hm
 refine Rt (Res.one results62 rfl) ?_
 exact ⟨rfl, hK.kp⟩
theorem zaD (w : World) {A : Nat → Prop} {B : Nat} (hB : B ≤ w.heap.size) (hA : ∀ b, w.heap.size ≤ b → A b) (r_ : ze) (b_r_ : Nat) (v_r_0 : Value) (h_r_0 : Sl A w v_r_0 r_.assigner.people) (v_r_1 : Value) (h_r_1 : Sl A w v_r_1 r_.assigner.cals) (v_r_2 : Value) (h_r_2 : Sl A w v_r_2 r_.assigner.steps) (v_r_3 : Value) (v_r_4 : Value) (h_r_4 : Sl A w v_r_4 r_.waiting) (v_r_5 : Value) (h_r_5 : Sl A w v_r_5 r_.held) (m_r_0 : Nat) (ticket : Int) {L : List Ob} (hH : Hp B A w (obC b_r_ [v_r_0, v_r_1, v_r_2, v_r_3, Ii r_.now, v_r_4, v_r_5, .map (some m_r_0)] 58 :: o_4 v_r_3 r_.assigner.away :: obRM (κ := Int) (α := za) m_r_0 r_.work :: L)) {r : Int} (hm : qg r_ ticket = some r) : Ret prog 30 #[Pt b_r_, Ii ticket] w fun v w' => ∃ A1 : Nat → Prop, v = Ii r ∧ Hp B A1 w' (obC b_r_ [v_r_0, v_r_1, v_r_2, v_r_3, Ii r_.now, v_r_4, v_r_5, .map (some m_r_0)] 58 :: o_4 v_r_3 r_.assigner.away :: obRM (κ := Int) (α := za) m_r_0 r_.work :: L) ∧ Tr Dw B A w A1 w' := by
 unfold qg at hm
 refine enter func30 rfl ntmps30 rfl ?_
 have hK : Tr Dw B A w A w := Tr.refl (Dw := Dw) hA
 refine Sr ?_
 refine Zy rfl rfl ?_
 intro b14 w15 h16
 have hk18 := h16.kp (Dw := Dw)
 have h17 : El (α := Int) A w15 b14 0 ticket := h16.el hA rfl
 have ht19 := Kp.tr hk18 hA hB; replace hH := Hp.kp hH hk18
 obtain ⟨h_r_4, hK, hB, hA⟩ := U1 ht19 hK hB h_r_4
 refine As (To ?_)
 refine Sr (Mm (Nc (Vy (Fc 5 underlying58 rfl sizeOf25 rfl rfl) (Ld (Hc 5 0 hH rfl rfl) isAgg25 (Vy (qk rfl rfl) ?_)))))
 obtain ⟨x21, hx21, hm⟩ := Bs hm
 refine Vc call61 (Qt (Dw := Dw) w15 hA r_.waiting v_r_4 h_r_4 (fun y31 => QI y31 ticket) 62 #[] #[Pt b14] call62 (fun w27 A28 ht29 h30 y22 v23 h24 r25 h26 => (zcI (Dw := Dw) w27 h30 y22 v23 h24 ticket b14 (El.tr h17 ht29) h26).mono (fun _ _ h => ⟨h.1, h.2⟩)) hx21) ?_
 rintro _ w33 ⟨rfl, hk34⟩
 have ht35 := Kp.tr hk34 hA hB; replace hH := Hp.kp hH hk34; replace hK := Tt hK ht35
 refine As (To ?_)
 obtain rfl := Oi hm
 refine Rt (Res.one results30 rfl) ?_
 exact ⟨A, rfl, hH, hK⟩
theorem ZA (w : World) {A : Nat → Prop} {B : Nat} (hB : B ≤ w.heap.size) (hA : ∀ b, w.heap.size ≤ b → A b) (s : (List za)) (v_s : Value) (h_s : Sl A w v_s s) {L : List Ob} (hH : Hp B A w (L)) {r : (List za)} (hm : zJ s = some r) : Ret prog 32 #[v_s] w fun v w' => ∃ s0, ∃ A1 : Nat → Prop, v = s0 ∧ Hp B A1 w' (o_38 s0 r :: L) ∧ Tr Dw B A w A1 w' := by
 unfold zJ at hm
 refine enter func32 rfl ntmps32 rfl ?_
 have hK : Tr Dw B A w A w := Tr.refl (Dw := Dw) hA
 rcases Sl.split h_s with ⟨rfl, rfl⟩ | ⟨a0, n0, c0, rfl⟩
 ·replace hm : some ([] : (List za)) = some r := by simpa [zt] using hm
  refine Sr (As (To ?_))
  refine zh (Sr (Mm (Vy (Jx rfl rfl underlying25) (To ?_))))
  refine Cc (fun hc => ?_) fun hc => ?_
  ·refine Sr (As (To ?_))
   obtain rfl := Oi hm
   replace hH : Hp B A w (o_38 (.slice none 0 0) ([] : (List za)) :: L) := Hp.addNil (α := za) (e := 38) hH
   refine Rt (Res.one results32 rfl) ?_
   exact ⟨.slice none 0 0, A, rfl, hH, hK⟩
  exact absurd hc (by decide)
 refine Sr (As (To ?_))
 refine zh (Sr (Mm (Vy (Jz rfl rfl underlying25) (To ?_))))
 refine Cc (fun hc => ?_) fun hc => ?_
 ·exact absurd hc (by decide)
 refine Sk ?_
 refine Sr ?_
 refine ji (Dw := Dw) (α := za) hH underlying25 sizeOf38 hB hA rfl ?_
 intro v3 w4 A5 hH6 ht7
 obtain ⟨h_s, hK, hB, hA⟩ := U1 ht7 hK hB h_s
 replace hH := hH6
 refine Mm ?_
 obtain ⟨x8, hx8, hm⟩ := Bs hm
 refine Zv (Dw := Dw) (e := 38) (v := v3) (l := ([] : List za)) (ti := t38) (bytes := 64) (lim := 2199023255552) hH (i := 0) rfl h_s hx8 underlying25 zap rfl rfl rfl rfl (by decide) (by decide) (by decide) hB hA rfl rfl rfl ?_
 intro v9 w10 A11 hH12 ht13
 replace hK := Tt hK ht13; replace hH := hH12
 refine As (To ?_)
 obtain rfl := Oi hm
 refine Rt (Res.one results32 rfl) ?_
 exact ⟨v9, A11, rfl, hH, hK⟩
theorem zcg (w : World) {A : Nat → Prop} {B : Nat} (hB : B ≤ w.heap.size) (hA : ∀ b, w.heap.size ≤ b → A b) (p0 : za) (b_p0 : Nat) (v_p0 : Value) (h_p0 : Sl A w v_p0 p0.needs) (p1 : ze) (b_p1 c_p1 : Nat) (v_p10 : Value) (h_p10 : Sl A w v_p10 p1.assigner.people) (v_p11 : Value) (h_p11 : Sl A w v_p11 p1.assigner.cals) (v_p12 : Value) (h_p12 : Sl A w v_p12 p1.assigner.steps) (v_p13 : Value) (v_p14 : Value) (h_p14 : Sl A w v_p14 p1.waiting) (v_p15 : Value) (h_p15 : Sl A w v_p15 p1.held) (m_p10 : Nat) (k_p1 : Vb A w c_p1 (Pt b_p1)) (p2 : Int) (b_p2 : Nat) (h_p2 : El A w b_p2 0 p2) {L : List Ob} (hH : Hp B A w (obC b_p0 [Ii p0.ticket, Ii p0.weight, Ii p0.urgency, Ii p0.since, Ii p0.former, v_p0] 38 :: obC b_p1 [v_p10, v_p11, v_p12, v_p13, Ii p1.now, v_p14, v_p15, .map (some m_p10)] 58 :: o_4 v_p13 p1.assigner.away :: obRM (κ := Int) (α := za) m_p10 p1.work :: L)) {r : (Int × za × ze)} (hm : ZS p0 p1 p2 = some r) : Ret prog 28 #[Pt b_p0, Pt c_p1, Pt b_p2] w fun v w' => ∃ u1_0, ∃ u2_0, ∃ u2_1, ∃ u2_2, ∃ u2_3, ∃ u2_4, ∃ u2_5, ∃ A1 : Nat → Prop, v = Ii r.1 ∧ Sl A1 w' u1_0 r.2.1.needs ∧ Sl A1 w' u2_0 r.2.2.assigner.people ∧ Sl A1 w' u2_1 r.2.2.assigner.cals ∧ Sl A1 w' u2_2 r.2.2.assigner.steps ∧ Sl A1 w' u2_4 r.2.2.waiting ∧ Sl A1 w' u2_5 r.2.2.held ∧ Hp B A1 w' (obC b_p0 [Ii r.2.1.ticket, Ii r.2.1.weight, Ii r.2.1.urgency, Ii r.2.1.since, Ii r.2.1.former, u1_0] 38 :: obC b_p1 [u2_0, u2_1, u2_2, u2_3, Ii r.2.2.now, u2_4, u2_5, .map (some m_p10)] 58 :: o_4 u2_3 r.2.2.assigner.away :: obRM (κ := Int) (α := za) m_p10 r.2.2.work :: L) ∧ Tr Dw B A w A1 w' := by
 unfold ZS at hm
 refine enter func28 rfl ntmps28 rfl ?_
 have hK : Tr Dw B A w A w := Tr.refl (Dw := Dw) hA
 refine Sr (As (To ?_))
 refine zh (Sr (Vy (zx (Hp.part (off := 0) (n := 6) (ds := [Ii p0.ticket, Ii p0.weight, Ii p0.urgency, Ii p0.since, Ii p0.former, v_p0]) hH (i := 0) rfl rfl) isAgg38 sizeOf38 rfl) ?_))
 refine zX (Dw := Dw) (cells := #[Ii p0.ticket, Ii p0.weight, Ii p0.urgency, Ii p0.since, Ii p0.former, v_p0]) (l := ([p0] : List za)) (len := 1) underlying25 sizeOf38 zeroValue38 rfl (by obtain ⟨a20, c21, e22, _⟩ := Sl.form h_p0; subst e22; kernel_rfl) (show (1 * 6 : Nat) ≠ 0 by decide) (show (1 * 6 : Nat) ≤ 2 ^ 24 by decide) hA ⟨[Ii p0.ticket, Ii p0.weight, Ii p0.urgency, Ii p0.since, Ii p0.former, v_p0], _, rfl, ⟨[Ii p0.ticket], _, rfl, rfl, ⟨[Ii p0.weight], _, rfl, rfl, ⟨[Ii p0.urgency], _, rfl, rfl, ⟨[Ii p0.since], _, rfl, rfl, ⟨[Ii p0.former], _, rfl, rfl, ⟨_, rfl, h_p0⟩⟩⟩⟩⟩⟩, rfl⟩ rfl rfl ?_
 intro v16 w17 hk19 h18
 have ht23 := Kp.tr hk19 hA hB; replace hH := Hp.kp hH hk19
 replace k_p1 := Vb.tr (Dw := Dw) k_p1 ht23
 replace h_p2 := El.tr h_p2 ht23
 obtain ⟨h_p0, h_p10, h_p11, h_p12, h_p14, h_p15, hK, hB, hA⟩ := U6 ht23 hK hB h_p0 h_p10 h_p11 h_p12 h_p14 h_p15
 obtain ⟨x24, hx24, hm⟩ := Bs hm
 refine Vc call29 (zbH (Dw := Dw) w17 hA ([p0] : List za) v16 h18 hx24) ?_
 rintro _ w25 ⟨rfl, hk26⟩
 have ht27 := Kp.tr hk26 hA hB; replace hH := Hp.kp hH hk26
 replace k_p1 := Vb.tr (Dw := Dw) k_p1 ht27
 replace h_p2 := El.tr h_p2 ht27
 obtain ⟨h_p0, h_p10, h_p11, h_p12, h_p14, h_p15, hK, hB, hA⟩ := U6 ht27 hK hB h_p0 h_p10 h_p11 h_p12 h_p14 h_p15
 refine As (To ?_)
 refine Sr (Mm (Vy (ZW rfl rfl) (To ?_)))
 refine Cc (fun hc28 => ?_) fun hc28 => ?_
 ·rw [if_pos hc28] at hm
  refine Sr (Mm (As (To ?_)))
  obtain rfl := Oi hm
  refine Rt (Res.one results28 rfl) ?_
  exact ⟨v_p0, v_p10, v_p11, v_p12, v_p13, v_p14, v_p15, A, rfl, h_p0, h_p10, h_p11, h_p12, h_p14, h_p15, hH, hK⟩
 rw [if_neg (nt hc28)] at hm
 refine Sk ?_
 refine zh (zl (zh ?_))
 obtain ⟨s30, ho29, hm⟩ := Bs hm
 refine zu (ι := (Nat → Prop)) (fun (A36 : (Nat → Prop)) => [(0, Pt b_p0), (1, Pt c_p1), (2, Pt b_p2), (11, .bool s30)]) (fun (A36 : (Nat → Prop)) => fun w' => Hp B A36 w' (obC b_p0 [Ii p0.ticket, Ii p0.weight, Ii p0.urgency, Ii p0.since, Ii p0.former, v_p0] 38 :: obC b_p1 [v_p10, v_p11, v_p12, v_p13, Ii p1.now, v_p14, v_p15, .map (some m_p10)] 58 :: o_4 v_p13 p1.assigner.away :: obRM (κ := Int) (α := za) m_p10 p1.work :: L) ∧ Tr Dw B A w25 A36 w') ?_ ?_
 ·have hr31 : Tr Dw B A w25 A w25 := Tr.refl (Dw := Dw) hA
  refine zo (Vy (qn k_p1.2.2 isAgg28 rfl) (Vy (Fc 0 underlying38 rfl sizeOf3 rfl rfl) (Ld (Hc 0 0 hH rfl rfl) isAgg3 ?_)))
  replace hH := Hf 3 (Hf 3 (Hf 3 hH))
  obtain ⟨x38, hx38, ho29⟩ := Bs ho29
  refine Vc call30 (zaD (Dw := Dw) w25 hB hA p1 b_p1 v_p10 h_p10 v_p11 h_p11 v_p12 h_p12 v_p13 v_p14 h_p14 v_p15 h_p15 m_p10 p0.ticket hH hx38) ?_
  rintro _ w39 ⟨A40, rfl, hH41, ht42⟩
  replace k_p1 := Vb.tr (Dw := Dw) k_p1 ht42
  replace hr31 := Tt hr31 ht42; replace hB := Bx hB ht42; replace hA := ht42.new
  obtain ⟨h_p10, h_p11, h_p12, h_p14, h_p15⟩ := T5 ht42 h_p10 h_p11 h_p12 h_p14 h_p15
  replace hH := hH41
  refine Vy (Qz rfl rfl) (Mm ?_)
  rcases Be (decide ((0 : Int) ≤ x38)) with hc43 | hc43
  ·rw [if_pos hc43] at ho29
   refine Gm hc43 (Gm hc43 (Gm hc43 (Gm hc43 (Gm hc43 (Vy (zF rfl hc43 rfl) (As ?_))))))
   obtain rfl := Oi ho29
   refine zn (fun a ha44 => ?_)
   replace hH := Hf 3 (Hf 2 (Hf 2 (Hf 2 hH)))
   exact ⟨A40, ha44.sb, ⟨hH, hr31⟩⟩
  rw [if_neg (nt hc43)] at ho29
  refine Gf hc43 (Vy (qn k_p1.2.2 isAgg28 rfl) (Gf hc43 (Vy (Fc 0 underlying38 rfl sizeOf3 rfl rfl) (Gf hc43 (Ld (Hc 0 3 hH rfl rfl) isAgg3 (Gf hc43 ?_))))))
  replace hH := Hf 2 (Hf 2 (Hf 2 hH))
  obtain ⟨x45, hx45, ho29⟩ := Bs ho29
  refine Vc call31 (zaS (Dw := Dw) w39 hB hA p1 b_p1 v_p10 h_p10 v_p11 h_p11 v_p12 h_p12 v_p13 v_p14 h_p14 v_p15 h_p15 m_p10 p0.ticket hH hx45) ?_
  rintro _ w46 ⟨A47, rfl, hH48, ht49⟩
  replace k_p1 := Vb.tr (Dw := Dw) k_p1 ht49
  replace hr31 := Tt hr31 ht49; replace hH := hH48
  refine Gf hc43 (Vy (Qz rfl rfl) (Vy (zG rfl hc43 rfl) (As ?_)))
  obtain rfl := Oi ho29
  refine zn (fun a ha50 => ?_)
  replace hH := Hf 3 (Hf 2 (Hf 2 (Hf 2 hH)))
  exact ⟨A47, ha50.sb, ⟨hH, hr31⟩⟩
 rintro A36 w33 ⟨hH37, hk34⟩ a ha35
 replace k_p1 := Vb.tr (Dw := Dw) k_p1 hk34
 replace h_p2 := El.tr h_p2 hk34; replace h_p0 := Sl.tr h_p0 hk34; replace h_p10 := Sl.tr h_p10 hk34; replace h_p11 := Sl.tr h_p11 hk34; replace h_p12 := Sl.tr h_p12 hk34; replace h_p14 := Sl.tr h_p14 hk34; replace h_p15 := Sl.tr h_p15 hk34; replace hK := Tr.trans hK hk34; replace hB := Nat.le_trans hB hk34.ex.size; replace hA := hk34.new; replace hH := hH37
 refine C_at (n := ⟨58, [], none⟩) (fun _ _ => rfl) ?_ ha35
 refine Cc (fun hc51 => ?_) fun hc51 => ?_
 ·rw [if_pos hc51] at hm
  refine Sr (As (To ?_))
  obtain rfl := Oi hm
  refine Rt (Res.one results28 rfl) ?_
  exact ⟨v_p0, v_p10, v_p11, v_p12, v_p13, v_p14, v_p15, A36, rfl, h_p0, h_p10, h_p11, h_p12, h_p14, h_p15, hH, hK⟩
 rw [if_neg (nt hc51)] at hm
 refine Sr (Vy (qn k_p1.2.2 isAgg28 rfl) (Nc (Vy (Fc 5 underlying58 rfl sizeOf25 rfl rfl) (Ld (Hc 5 1 hH rfl rfl) isAgg25 (Vy (zA h_p14 rfl underlying25 rfl) (Vy (Qz rfl rfl) (As (To ?_))))))))
 refine Cc (fun hc52 => ?_) fun hc52 => ?_
 ·rw [if_pos hc52] at hm
  refine Sr (As (To ?_))
  obtain rfl := Oi hm
  refine Rt (Res.one results28 rfl) ?_
  exact ⟨v_p0, v_p10, v_p11, v_p12, v_p13, v_p14, v_p15, A36, rfl, h_p0, h_p10, h_p11, h_p12, h_p14, h_p15, hH, hK⟩
 rw [if_neg (nt hc52)] at hm
 refine Sr (Vy (Fc 3 underlying38 rfl sizeOf3 rfl rfl) (Ld (Hc 3 0 hH rfl rfl) isAgg3 (Li h_p2 isAgg3 (Vy (qz rfl rfl) (As (To ?_))))))
 refine Cc (fun hc53 => ?_) fun hc53 => ?_
 ·rw [if_pos hc53] at hm
  refine Sr (As (To ?_))
  obtain rfl := Oi hm
  refine Rt (Res.one results28 rfl) ?_
  exact ⟨v_p0, v_p10, v_p11, v_p12, v_p13, v_p14, v_p15, A36, rfl, h_p0, h_p10, h_p11, h_p12, h_p14, h_p15, hH, hK⟩
 rw [if_neg (nt hc53)] at hm
 refine Sk ?_
 refine Sr (Vy (Fc 5 underlying38 rfl sizeOf36 rfl rfl) (Ld (Hc 5 0 hH rfl rfl) isAgg36 ?_))
 obtain ⟨x54, hx54, hm⟩ := Bs hm
 refine Vc call20 (Zx (Dw := Dw) w33 hA p0.needs v_p0 h_p0 hx54) ?_
 rintro v55 w57 ⟨_, rfl, h56, hk58⟩
 obtain ⟨A59, ht60, hH61⟩ := Hp.addOwnd (Dw := Dw) hH hB hA hk58 h56
 replace k_p1 := Vb.tr (Dw := Dw) k_p1 ht60
 obtain ⟨h_p10, h_p11, h_p12, h_p14, h_p15, hK, hB, hA⟩ := U5 ht60 hK hB h_p10 h_p11 h_p12 h_p14 h_p15
 replace hH := hH61
 refine Vy (Fc 5 underlying38 rfl sizeOf36 rfl rfl) ?_
 obtain ⟨A62, ht63, h64, hH65⟩ := Hp.freeze (Dw := Dw) (α := zi) (v := v55) (l := x54) hH (i := 0) rfl hA
 replace k_p1 := Vb.tr (Dw := Dw) k_p1 ht63
 obtain ⟨h_p10, h_p11, h_p12, h_p14, h_p15, hK, hB, hA⟩ := U5 ht63 hK hB h_p10 h_p11 h_p12 h_p14 h_p15
 replace hH := hH65
 have h72 := Sl.oc h64
 refine Sc Dw 5 [Ii p0.ticket, Ii p0.weight, Ii p0.urgency, Ii p0.since, Ii p0.former, v55] 0 hH h72 sizeOf36 hB hA ?_
 intro w67 hH68 ht69
 replace k_p1 := Vb.tr (Dw := Dw) k_p1 ht69
 obtain ⟨h64, h_p10, h_p11, h_p12, h_p14, h_p15, hK, hB, hA⟩ := U6 ht69 hK hB h64 h_p10 h_p11 h_p12 h_p14 h_p15
 replace hH := hH68
 refine To ?_
 refine zh ?_
 refine ZZ (Dw := Dw) 7 zH (by kernel_rfl) ?_
 simp only [List.take, List.drop]
 refine Ql (fun w' hw' => ((Vb.kp (Dw := Dw) k_p1 hw').2.2)) isAgg28 (Qn (Qv (fun w' hw' => Fc 7 underlying58 rfl sizeOf33 rfl rfl) (Qc (Hc 7 1 hH rfl rfl) isAgg33 (Qv (fun w' hw' => Fc 0 underlying38 rfl sizeOf3 rfl rfl) (Qc (Hc 0 0 hH rfl rfl) isAgg3 (Qv (fun w' hw' => zx (At.kp (Dw := Dw) (Hp.part (off := 0) (n := 6) (ds := [Ii p0.ticket, Ii p0.weight, Ii p0.urgency, Ii p0.since, Ii p0.former, v55]) hH (i := 0) rfl rfl) hw' (Array.getElem?_eq_some_iff.1 (Hp.cells hH (i := 0) rfl).2.1).1) isAgg38 sizeOf38 rfl) ?_))))))
 refine QU (fun w73 hk74 => ?_)
 try simp only [List.take, List.drop]
 have ht75 := Kp.tr hk74 hA hB; replace hH := Hp.kp hH hk74
 replace k_p1 := Vb.tr (Dw := Dw) k_p1 ht75
 obtain ⟨h64, h_p10, h_p11, h_p12, h_p14, h_p15, hK, hB, hA⟩ := U6 ht75 hK hB h64 h_p10 h_p11 h_p12 h_p14 h_p15
 refine zee (Dw := Dw) (κ := Int) (α := za) (l := p1.work) (c := (⟨p0.ticket, p0.weight, p0.urgency, p0.since, p0.former, x54⟩ : za)) (cs := #[Ii p0.ticket, Ii p0.weight, Ii p0.urgency, Ii p0.since, Ii p0.former, v55]) hH (i := 3) rfl underlying33 underlying3 rfl rfl rfl ⟨[Ii p0.ticket], _, rfl, rfl, ⟨[Ii p0.weight], _, rfl, rfl, ⟨[Ii p0.urgency], _, rfl, rfl, ⟨[Ii p0.since], _, rfl, rfl, ⟨[Ii p0.former], _, rfl, rfl, ⟨_, rfl, h64⟩⟩⟩⟩⟩⟩ hB hA ?_
 intro w76 hH77 ht78
 replace k_p1 := Vb.tr (Dw := Dw) k_p1 ht78
 obtain ⟨h64, h_p10, h_p11, h_p12, h_p14, h_p15, hK, hB, hA⟩ := U6 ht78 hK hB h64 h_p10 h_p11 h_p12 h_p14 h_p15
 replace hH := hH77
 refine To ?_
 refine zh ?_
 obtain ⟨x147, hx147, hm⟩ := Bs hm
 have h82 := k_p1.2.1
 have h83 := k_p1.2.1
 have h84 := World.block_lt_of_cell? _ _ (Hc 5 1 hH rfl rfl)
 have h85 := (Array.getElem?_eq_some_iff.1 (Hp.cells hH (i := 0) rfl).2.1).1
 refine zeA (Dw := Dw) (fun b => b < w76.heap.size) (fun w79 a' w' => ∃ (v148 : Value) (v207 : Value), ∃ A' : Nat → Prop, Has ⟨58, [], none⟩ a' [(47, Pt b_p1), (52, v148), (54, v207)] ∧ Hp B A' w' (o_38 v148 x147 :: obC b_p0 [Ii p0.ticket, Ii p0.weight, Ii p0.urgency, Ii p0.since, Ii p0.former, v55] 38 :: obC b_p1 [v_p10, v_p11, v_p12, v_p13, Ii p1.now, v_p14, v_p15, .map (some m_p10)] 58 :: o_4 v_p13 p1.assigner.away :: obRM (κ := Int) (α := za) m_p10 (QO p1.work p0.ticket (⟨p0.ticket, p0.weight, p0.urgency, p0.since, p0.former, x54⟩ : za)) :: L) ∧ Sl A' w' v207 ([(⟨p0.ticket, p0.weight, p0.urgency, p0.since, p0.former, x54⟩ : za)] : List za) ∧ (∀ g, (v148 : Value).ownBlock = some g → w76.heap.size ≤ g) ∧ Tr Dw B A62 w79 A' w') [5, 7] [(1, 0), (1, 1), (1, 2), (1, 3), (1, 4), (1, 6)] [(3, 8), (0, 9), (0, 10), (4, 11)] zH (by kernel_rfl) (fun w79 hk80 => ?_) (fun w79 hk80 => ?_)
 ·have ht81 := Kp.tr hk80 hA hB
  replace hH := Hp.kp hH hk80
  replace k_p1 := Vb.tr (Dw := Dw) k_p1 ht81
  replace hB := Bx hB ht81; replace hA := ht81.new
  obtain ⟨h64, h_p14⟩ := T2 ht81 h64 h_p14
  refine zde rfl (Ql (fun w' hw' => (((World.cell?_of_block (hw'.2 _ k_p1.2.1 h82)).trans k_p1.2.2))) isAgg28 (qm (zde rfl (Ql (fun w' hw' => (((World.cell?_of_block (hw'.2 _ k_p1.2.1 h83)).trans k_p1.2.2))) isAgg28 (qm (zde rfl (Qn (qm (zde rfl ?_)))))))))
  refine Qv (fun w' hw' => Fc 5 underlying58 rfl sizeOf25 rfl rfl) (qm (zde rfl ?_))
  refine VQ_y (fun w' hw' => qn ((World.cell?_of_block (hw'.2 _ (World.block_lt_of_cell? _ _ (Hc 5 1 hH rfl rfl)) h84)).trans (Hc 5 1 hH rfl rfl)) isAgg25 rfl) rfl rfl rfl ?_
  refine qm (zde rfl (Qv (fun w' hw' => zx (At.same (Hp.part (off := 0) (n := 6) (ds := [Ii p0.ticket, Ii p0.weight, Ii p0.urgency, Ii p0.since, Ii p0.former, v55]) hH (i := 0) rfl rfl) (hw'.2 _ (Array.getElem?_eq_some_iff.1 (Hp.cells hH (i := 0) rfl).2.1).1 h85)) isAgg38 sizeOf38 rfl) (qm ?_)))
  refine ziL ?_
  have hT86 : Tr Dw B A62 w79 A62 w79 := Tr.refl (Dw := Dw) hA
  refine zhf rfl rfl rfl rfl ?_ ?_
  ·refine Vc call32 (ZA (Dw := Dw) w79 (B := w79.heap.size) (Nat.le_refl _) hA p1.waiting v_p14 h_p14 Hp.nil hx147) ?_
   rintro v148 w150 ⟨_, A151, rfl, hH152, ht153⟩
   have hn157 := Hp.newS (α := za) (e := 38) (v := v148) (l := x147) hH152 (i := 0) rfl
   have hk154 : Kp Dw w79 w150 := ht153.below
   have hH155 := Hp.join (Dw := Dw) hH hB ht153 hH152
   have ht156 := Tr.lower (Dw := Dw) ht153 hB
   replace k_p1 := Vb.tr (Dw := Dw) k_p1 ht156
   replace h64 := Sl.tr h64 ht156; replace hT86 := Tt hT86 ht156; replace hB := Bx hB ht156; replace hA := ht156.new; replace hH := hH155
   refine jA (hk154) ?_
   refine zco rfl rfl ?_
   refine zX (Dw := Dw) (cells := #[Ii p0.ticket, Ii p0.weight, Ii p0.urgency, Ii p0.since, Ii p0.former, v55]) (l := ([(⟨p0.ticket, p0.weight, p0.urgency, p0.since, p0.former, x54⟩ : za)] : List za)) (len := 1) underlying25 sizeOf38 zeroValue38 rfl (by obtain ⟨a211, c212, e213, _⟩ := Sl.form h64; subst e213; kernel_rfl) (show (1 * 6 : Nat) ≠ 0 by decide) (show (1 * 6 : Nat) ≤ 2 ^ 24 by decide) hA ⟨[Ii p0.ticket, Ii p0.weight, Ii p0.urgency, Ii p0.since, Ii p0.former, v55], _, rfl, ⟨[Ii p0.ticket], _, rfl, rfl, ⟨[Ii p0.weight], _, rfl, rfl, ⟨[Ii p0.urgency], _, rfl, rfl, ⟨[Ii p0.since], _, rfl, rfl, ⟨[Ii p0.former], _, rfl, rfl, ⟨_, rfl, h64⟩⟩⟩⟩⟩⟩, rfl⟩ rfl rfl ?_
   intro v207 w208 hk210 h209
   have ht214 := Kp.tr hk210 hA hB; replace hH := Hp.kp hH hk210
   replace k_p1 := Vb.tr (Dw := Dw) k_p1 ht214
   replace hT86 := Tt hT86 ht214
   refine jA (hk210) ?_
   exact zcr (fun a ha => ⟨v148, v207, A151, ha.sb, hH, h209, fun g hg => Nat.le_trans (hk80.size) (hn157 g hg), hT86⟩)
  refine zX (Dw := Dw) (cells := #[Ii p0.ticket, Ii p0.weight, Ii p0.urgency, Ii p0.since, Ii p0.former, v55]) (l := ([(⟨p0.ticket, p0.weight, p0.urgency, p0.since, p0.former, x54⟩ : za)] : List za)) (len := 1) underlying25 sizeOf38 zeroValue38 rfl (by obtain ⟨a211, c212, e213, _⟩ := Sl.form h64; subst e213; kernel_rfl) (show (1 * 6 : Nat) ≠ 0 by decide) (show (1 * 6 : Nat) ≤ 2 ^ 24 by decide) hA ⟨[Ii p0.ticket, Ii p0.weight, Ii p0.urgency, Ii p0.since, Ii p0.former, v55], _, rfl, ⟨[Ii p0.ticket], _, rfl, rfl, ⟨[Ii p0.weight], _, rfl, rfl, ⟨[Ii p0.urgency], _, rfl, rfl, ⟨[Ii p0.since], _, rfl, rfl, ⟨[Ii p0.former], _, rfl, rfl, ⟨_, rfl, h64⟩⟩⟩⟩⟩⟩, rfl⟩ rfl rfl ?_
  intro v207 w208 hk210 h209
  have ht214 := Kp.tr hk210 hA hB; replace hH := Hp.kp hH hk210
  replace k_p1 := Vb.tr (Dw := Dw) k_p1 ht214
  replace h_p14 := Sl.tr h_p14 ht214; replace hT86 := Tt hT86 ht214; replace hB := Bx hB ht214; replace hA := ht214.new
  refine jA (hk210) ?_
  refine zco rfl rfl ?_
  refine Vc call32 (ZA (Dw := Dw) w208 (B := w208.heap.size) (Nat.le_refl _) hA p1.waiting v_p14 h_p14 Hp.nil hx147) ?_
  rintro v148 w150 ⟨_, A151, rfl, hH152, ht153⟩
  have hn157 := Hp.newS (α := za) (e := 38) (v := v148) (l := x147) hH152 (i := 0) rfl
  have hk154 : Kp Dw w208 w150 := ht153.below
  have hH155 := Hp.join (Dw := Dw) hH hB ht153 hH152
  have ht156 := Tr.lower (Dw := Dw) ht153 hB
  replace k_p1 := Vb.tr (Dw := Dw) k_p1 ht156
  replace h209 := Sl.tr h209 ht156; replace hT86 := Tt hT86 ht156; replace hH := hH155
  refine jA (hk154) ?_
  exact zcr (fun a ha => ⟨v148, v207, A151, ha.sb, hH, h209, fun g hg => Nat.le_trans (Nat.le_trans (hk80.size) (Bel.size (hk210))) (hn157 g hg), hT86⟩)
 have ht327 := Kp.tr hk80 hA hB; replace hH := Hp.kp hH hk80
 replace k_p1 := Vb.tr (Dw := Dw) k_p1 ht327
 obtain ⟨h64, h_p10, h_p11, h_p12, h_p15, hK, hB, hA⟩ := U5 ht327 hK hB h64 h_p10 h_p11 h_p12 h_p15
 rintro a w326 ⟨v148, v207, A215, ha326, hH326, h209, hn326, ht326⟩
 replace k_p1 := Vb.tr (Dw := Dw) k_p1 ht326
 obtain ⟨h64, h_p10, h_p11, h_p12, h_p15, hK, hB, hA⟩ := U5 ht326 hK hB h64 h_p10 h_p11 h_p12 h_p15
 replace hH := hH326
 refine (?_ : CH Dw _ ⟨58, [], none⟩ _ (fun b => b < w76.heap.size) _ [(3, 8), (0, 9), (0, 10), (4, 11)] [(47, Pt b_p1), (52, v148), (54, v207)] w326) a ha326
 refine qw (k := 1) rfl ?_
 obtain ⟨x328, hx328, hm⟩ := Bs hm
 refine zjd (Dw := Dw) (e := 38) (v := v148) (l := x147) (ti := t38) (bytes := 64) (lim := 2199023255552) hH (i := 0) rfl h209 hx328 underlying25 zap rfl rfl rfl rfl (by decide) (by decide) (by decide) hB hA rfl rfl rfl ?_
 intro v329 w330 A331 hH332 ht333 hs334
 replace k_p1 := Vb.tr (Dw := Dw) k_p1 ht333
 obtain ⟨h64, h_p10, h_p11, h_p12, h_p15, hK, hB, hA⟩ := U5 ht333 hK hB h64 h_p10 h_p11 h_p12 h_p15
 replace hH := hH332
 refine zeC (⟨hs334.1, fun k hk ha => hs334.2 k hk fun e => Nat.not_le.2 ha (hn326 k e.symm)⟩) ?_
 refine qF rfl (Qn (zB (qF rfl (Qv (fun w' hw' => Fc 5 underlying58 rfl sizeOf25 rfl rfl) (zB ?_)))))
 refine qw (k := 2) rfl ?_
 have h340 := Sl.oc (Hp.any (α := za) (e := 38) (v := v329) (l := x328) hH (i := 0) rfl)
 refine Sc Dw 5 [v_p10, v_p11, v_p12, v_p13, Ii p1.now, v329, v_p15, .map (some m_p10)] 2 hH h340 sizeOf25 hB hA ?_
 intro w335 hH336 ht337
 replace k_p1 := Vb.tr (Dw := Dw) k_p1 ht337
 replace hK := Tt hK ht337; replace hA := ht337.new
 obtain ⟨h64, h_p10, h_p11, h_p12, h_p15⟩ := T5 ht337 h64 h_p10 h_p11 h_p12 h_p15
 replace hH := hH336
 refine zaE ?_
 refine jC ?_
 show V _ _ _ _ [] _ _
 refine To ?_
 refine Sr (As (To ?_))
 obtain rfl := Oi hm
 obtain ⟨A341, ht342, h343, hH344⟩ := Hp.freeze (Dw := Dw) (α := za) (v := v329) (l := x328) hH (i := 0) rfl hA
 replace hK := Tt hK ht342
 obtain ⟨h64, h_p10, h_p11, h_p12, h_p15⟩ := T5 ht342 h64 h_p10 h_p11 h_p12 h_p15
 replace hH := hH344
 refine Rt (Res.one results28 rfl) ?_
 exact ⟨v55, v_p10, v_p11, v_p12, v_p13, v329, v_p15, A341, rfl, h64, h_p10, h_p11, h_p12, h343, h_p15, hH, hK⟩
theorem zcO (w : World) {A : Nat → Prop} {B : Nat} (hB : B ≤ w.heap.size) (hA : ∀ b, w.heap.size ≤ b → A b) (r_ : ze) (b_r_ : Nat) (v_r_0 : Value) (h_r_0 : Sl A w v_r_0 r_.assigner.people) (v_r_1 : Value) (h_r_1 : Sl A w v_r_1 r_.assigner.cals) (v_r_2 : Value) (h_r_2 : Sl A w v_r_2 r_.assigner.steps) (v_r_3 : Value) (v_r_4 : Value) (h_r_4 : Sl A w v_r_4 r_.waiting) (v_r_5 : Value) (h_r_5 : Sl A w v_r_5 r_.held) (m_r_0 : Nat) (w_ : za) (v_w_ : Value) (h_w_ : Sl A w v_w_ w_.needs) (m : Int) {L : List Ob} (hH : Hp B A w (obC b_r_ [v_r_0, v_r_1, v_r_2, v_r_3, Ii r_.now, v_r_4, v_r_5, .map (some m_r_0)] 58 :: o_4 v_r_3 r_.assigner.away :: obRM (κ := Int) (α := za) m_r_0 r_.work :: L)) {r : ((List zb) × Int × ze)} (hm : QP r_ w_ m = some r) : Ret prog 7 #[Pt b_r_, .agg #[Ii w_.ticket, Ii w_.weight, Ii w_.urgency, Ii w_.since, Ii w_.former, v_w_], Ii m] w fun v w' => ∃ s0, ∃ u1_0, ∃ u1_1, ∃ u1_2, ∃ u1_3, ∃ u1_4, ∃ u1_5, ∃ A1 : Nat → Prop, v = .tuple #[s0, Ii r.2.1] ∧ Sl A1 w' u1_0 r.2.2.assigner.people ∧ Sl A1 w' u1_1 r.2.2.assigner.cals ∧ Sl A1 w' u1_2 r.2.2.assigner.steps ∧ Sl A1 w' u1_4 r.2.2.waiting ∧ Sl A1 w' u1_5 r.2.2.held ∧ Hp B A1 w' (o_46 s0 r.1 :: obC b_r_ [u1_0, u1_1, u1_2, u1_3, Ii r.2.2.now, u1_4, u1_5, .map (some m_r_0)] 58 :: o_4 u1_3 r.2.2.assigner.away :: obRM (κ := Int) (α := za) m_r_0 r.2.2.work :: L) ∧ Tr Dw B A w A1 w' := by
 unfold QP at hm
 refine enter func7 rfl ntmps7 rfl ?_
 have hK : Tr Dw B A w A w := Tr.refl (Dw := Dw) hA
 refine Sr ?_
 refine Zy rfl rfl ?_
 intro b16 w17 h18
 have hk19 := h18.kp (Dw := Dw)
 have h20 : Vb A w17 b16 (Pt b_r_) := h18.vb hA rfl
 have ht21 := Kp.tr hk19 hA hB; replace hH := Hp.kp hH hk19
 obtain ⟨h_w_, h_r_0, h_r_1, h_r_2, h_r_4, h_r_5, hK, hB, hA⟩ := U6 ht21 hK hB h_w_ h_r_0 h_r_1 h_r_2 h_r_4 h_r_5
 refine zhP (Dw := Dw) (B := B) hH rfl hB hA rfl ?_
 intro b22 w23 A24 hH25 ht26
 replace h20 := Vb.tr (Dw := Dw) h20 ht26
 obtain ⟨h_w_, h_r_0, h_r_1, h_r_2, h_r_4, h_r_5, hK, hB, hA⟩ := U6 ht26 hK hB h_w_ h_r_0 h_r_1 h_r_2 h_r_4 h_r_5
 replace hH := hH25
 refine Zy rfl rfl ?_
 intro b27 w28 h29
 have hk31 := h29.kp (Dw := Dw)
 have h30 : El (α := Int) A24 w28 b27 0 m := h29.el hA rfl
 have ht32 := Kp.tr hk31 hA hB; replace hH := Hp.kp hH hk31
 replace h20 := Vb.tr (Dw := Dw) h20 ht32
 obtain ⟨h_w_, h_r_0, h_r_1, h_r_2, h_r_4, h_r_5, hK, hB, hA⟩ := U6 ht32 hK hB h_w_ h_r_0 h_r_1 h_r_2 h_r_4 h_r_5
 refine As (As (To ?_))
 refine Sr (Vy (qn h20.2.2 isAgg28 rfl) (Li h30 isAgg3 (Vy (qk rfl rfl) ?_)))
 replace hH : Hp B A24 w28 (obVv (α := za) b22 38 w_ :: obC b_r_ [v_r_0, v_r_1, v_r_2, v_r_3, Ii r_.now, v_r_4, v_r_5, .map (some m_r_0)] 58 :: o_4 v_r_3 r_.assigner.away :: obRM (κ := Int) (α := za) m_r_0 r_.work :: L) := Hp.toV (x := w_) hH ⟨[Ii w_.ticket], _, rfl, rfl, ⟨[Ii w_.weight], _, rfl, rfl, ⟨[Ii w_.urgency], _, rfl, rfl, ⟨[Ii w_.since], _, rfl, rfl, ⟨[Ii w_.former], _, rfl, rfl, ⟨_, rfl, h_w_⟩⟩⟩⟩⟩⟩
 replace hH := Hf 3 (Hf 3 (Hf 3 hH))
 obtain ⟨x33, hx33, hm⟩ := Bs hm
 refine zdZ call27 rfl rfl rfl rfl (QR (Dw := Dw) w28 hB hA r_ b_r_ v_r_0 h_r_0 v_r_1 h_r_1 v_r_2 h_r_2 v_r_3 v_r_4 h_r_4 v_r_5 h_r_5 m_r_0 m (fun R => Option.bind (ZS w_ R m) fun x => some (x.1, x.2.2)) 28 #[] #[Pt b22, Pt b16, Pt b27] (obVv (α := za) b22 38 w_) call28 (fun w1 A1 L1 R u0 gu0 u1 gu1 u2 gu2 u3 u4 gu4 u5 gu5 r hB1 hA1 ht hH1 hm1 => by obtain ⟨x2, hx2, hr2⟩ := Bs hm1; obtain rfl := Oi hr2; obtain ⟨cs, hcs, hH2⟩ := Hp.ofV (Hp.front hH1 (i := 3) rfl); obtain ⟨q0, rfl, k0⟩ := zak hcs; have hk := zbw hx2; refine (zcg (Dw := Dw) w1 hB1 hA1 w_ b22 q0 k0 R b_r_ b16 u0 gu0 u1 gu1 u2 gu2 u3 u4 gu4 u5 gu5 m_r_0 (Vb.tr (Dw := Dw) h20 ht) m b27 (El.tr h30 ht) hH2 hx2).mono ?_; rintro _ w2 ⟨y0, z0, z1, z2, z3, z4, z5, A2, rfl, t0, f0, f1, f2, f4, f5, hH3, ht3⟩; simp only [hk] at hH3 t0; have hV := Hp.toV (x := w_) hH3 ⟨[Ii w_.ticket], _, rfl, rfl, ⟨[Ii w_.weight], _, rfl, rfl, ⟨[Ii w_.urgency], _, rfl, rfl, ⟨[Ii w_.since], _, rfl, rfl, ⟨[Ii w_.former], _, rfl, rfl, ⟨_, rfl, t0⟩⟩⟩⟩⟩⟩; exact ⟨z0, z1, z2, z3, z4, z5, A2, rfl, f0, f1, f2, f4, f5, Hp.front (Hp.front (Hp.front hV (i := 3) rfl) (i := 3) rfl) (i := 3) rfl, ht3⟩) hH hx33) ?_
 rintro _ w49 ⟨v34, v36, v38, v40, v42, v44, v46, A50, rfl, h37, h39, h41, h45, h47, hH51, ht52⟩
 replace h20 := Vb.tr (Dw := Dw) h20 ht52
 replace hK := Tt hK ht52; replace hH := hH51
 refine Vy (zD rfl rfl) (Vy (zD rfl rfl) (As (As (To ?_))))
 obtain rfl := Oi hm
 replace hH := Hd 4 (Hf 3 (Hf 3 (Hf 3 (Hf 3 hH))))
 refine Rt (Res.two results7 rfl rfl) ?_
 exact ⟨v34, v36, v38, v40, v42, v44, v46, A50, rfl, h37, h39, h41, h45, h47, hH, hK⟩
theorem JU (w : World) {A : Nat → Prop} {B : Nat} {L : List Ob} {k : Nat} {v : Value} {l r : List zb} (i j : Int) (hH : Hp B A w L) (hi : L[k]? = some (o_46 v l)) (hB : B ≤ w.heap.size) (hA : ∀ b, w.heap.size ≤ b → A b) (hr : ZY l i j = some r) :
  Ret prog 65 #[v, Ii i, Ii j] w fun u w' => ∃ v', u = v' ∧ Hp B A w' (L.set k (o_46 v' r)) ∧ Tr Dw B A w A w' := by
 unfold ZY at hr
 split at hr
 case isFalse => cases hr
 rename_i hcond
 obtain ⟨hi0, hij, hjl⟩ := hcond
 obtain rfl := Oi hr
 obtain ⟨i, rfl⟩ : ∃ n : Nat, i = (n : Int) := ⟨i.toNat, by omega⟩
 obtain ⟨j, rfl⟩ : ∃ n : Nat, j = (n : Int) := ⟨j.toNat, by omega⟩
 rw [Int.toNat_natCast, Int.toNat_natCast]
 have hne : l ≠ [] := fun e => by rw [e] at hjl; simp at hjl; omega
 obtain ⟨g, cap, _, rfl, _, hlc, hlm, _⟩ := Hp.openS hH hi hne hA
 have hkL : k < L.length := (List.getElem?_eq_some_iff.1 hi).1
 refine enter func65 rfl ntmps65 rfl ?_
 refine Sr (As (To ?_))
 refine Sr (Mm (Mm (Mm (Mm (Vy (zaJ rfl underlying34 rfl) ?_)))))
 obtain ⟨u0, hu0⟩ := zlb (P := prog) (nn := ⟨33, [], none⟩) (E := [(12, Ii (l.length : Int)), (11, .slice (some ⟨g, 0, none⟩) l.length cap), (10, Ii (j : Int)), (9, Ii (i : Int)), (8, .slice (some ⟨g, 0, none⟩) l.length cap), (6, .slice none 0 0), (0, .slice (some ⟨g, 0, none⟩) l.length cap), (1, Ii (i : Int)), (2, Ii (j : Int))]) (w := w) (ty := 34) (pos := "slices.go:225") (af := #[⟨0, .data⟩, ⟨1, .data⟩, ⟨2, .data⟩, ⟨4, .data⟩]) (ρd := some 13) (gd := none) (x := .tmp 8) (y := .tmp 9) (z := .tmp 10) (m := .tmp 12) (lo := i) (hi := j) (mx := l.length) (by omega) (by omega) hlc underlying34 sizeOf46 rfl rfl rfl rfl
 refine V_y hu0 rfl rfl rfl ?_
 refine To ?_
 refine zh (Sr (Mm (Mm (Vy (ql rfl rfl) (To ?_)))))
 refine Cc (fun hc => ?_) fun _ => ?_
 ·have : ((i : Int) == (j : Int)) = true := hc
  rw [beq_iff_eq] at this
  omega
 refine Sk ?_
 refine Sr (Mm (Vy (zaJ rfl underlying34 rfl) (As (To ?_))))
 refine zh ?_
 refine ZZ (Dw := Dw) 6 zH (by kernel_rfl) ?_
 simp only [List.take, List.drop]
 refine Qm (Qm ?_)
 refine Qv (fun w' hw' => zhQ (by omega) underlying34 sizeOf46 rfl rfl) (Qm (Qm ?_))
 refine Qv (fun w' hw' => ziW (by omega) hlc underlying34 sizeOf46 rfl rfl) ?_
 refine QU (fun w2 hk2 => ?_)
 try simp only [List.take, List.drop]
 have ht2 := Kp.tr hk2 hA hB; replace hH := Hp.kp hH hk2; replace hB := Bx hB ht2; replace hA := ht2.new
 refine zfn (Dw := Dw) (α := zb) (i := i) (j := j) (ti := t46) hH hi (by omega) (by omega) underlying34 jb rfl hB hA rfl rfl (fun h => if_pos (by omega)) rfl ?_
 intro w3 hH3 ht3
 replace hB := Bx hB ht3; replace hA := ht3.new
 refine As (To ?_)
 refine Sr (Mm (Mm (Vy (zaJ rfl underlying34 rfl) (Mm ?_))))
 refine Vy (ziH (lo := i + (l.length - j)) (hi := l.length) (by omega) hlc (by omega) underlying34 sizeOf46 rfl rfl rfl) ?_
 have hml := zaT (l := l) (i := i) (j := j) (by omega) (by omega)
 refine zfm (Dw := Dw) (α := zb) (lo := i + (l.length - j)) (n := l.length - (i + (l.length - j))) (l := zaU l i j) (i := k) (cap := cap) hH3 (by rw [List.getElem?_set_self hkL, hml]) (by omega) underlying34 zeroValue46 rfl (by simp [Value.cells, Value.oneCell']) hB hA rfl ?_
 intro w4 hH4 ht4
 rw [List.set_set, zeN (by omega) (by omega)] at hH4
 refine To ?_
 refine Sr (Mm (As (To ?_)))
 refine Rt (Res.one results65 rfl) ?_
 exact ⟨_, rfl, hH4, Tr.trans ht2 (Tr.trans ht3 ht4)⟩
theorem zbC (w : World) {A : Nat → Prop} (hA : ∀ b, w.heap.size ≤ b → A b) (l : (List zb)) (v_l : Value) (h_l : Sl A w v_l l) (k_ : Int) {r : (List zb)} (hm : qC l k_ = some r) : Ret prog 34 #[v_l, Ii k_] w fun v w' => ∃ s0, v = s0 ∧ Ownd 46 w w' s0 r ∧ Kp Dw w w' := by
 unfold qC at hm
 refine enter func34 rfl ntmps34 rfl ?_
 have hA0 := hA
 obtain ⟨hB, hK, hH⟩ := St (Dw := Dw) hA
 refine Sr (As (To ?_))
 refine Sr (Mm ?_)
 obtain ⟨x3, hx3, hm⟩ := Bs hm
 refine Vc call25 (QX (Dw := Dw) w hA l v_l h_l hx3) ?_
 rintro v4 w6 ⟨_, rfl, h5, hk7⟩
 obtain ⟨A8, ht9, hH10⟩ := Hp.addOwnd (Dw := Dw) hH hB hA hk7 h5
 obtain ⟨hK, hB, hA⟩ := U0 ht9 hK hB
 replace hH := hH10
 refine Mm (Mm (Vy (zN rfl rfl) ?_))
 obtain ⟨x11, hx11, hm⟩ := Bs hm
 refine Vc call65 (JU (Dw := Dw) w6 k_ (w64 (k_ + 1)) hH (k := 0) rfl hB hA hx11) ?_
 rintro v12 w13 ⟨_, rfl, hH14, ht15⟩
 replace hK := Tt hK ht15; replace hH := hH14
 refine As (To ?_)
 obtain rfl := Oi hm
 refine Rt (Res.one results34 rfl) ?_
 exact ⟨v12, rfl, (Hp.ownd hH (i := 0) rfl), hK.kp⟩
theorem JT (w : World) {A : Nat → Prop} {B : Nat} {L : List Ob} {k : Nat} {v : Value} {l r : List za} (i j : Int) (hH : Hp B A w L) (hi : L[k]? = some (o_38 v l)) (hB : B ≤ w.heap.size) (hA : ∀ b, w.heap.size ≤ b → A b) (hr : ZX l i j = some r) :
  Ret prog 66 #[v, Ii i, Ii j] w fun u w' => ∃ v', u = v' ∧ Hp B A w' (L.set k (o_38 v' r)) ∧ Tr Dw B A w A w' := by
 unfold ZX at hr
 split at hr
 case isFalse => cases hr
 rename_i hcond
 obtain ⟨hi0, hij, hjl⟩ := hcond
 obtain rfl := Oi hr
 obtain ⟨i, rfl⟩ : ∃ n : Nat, i = (n : Int) := ⟨i.toNat, by omega⟩
 obtain ⟨j, rfl⟩ : ∃ n : Nat, j = (n : Int) := ⟨j.toNat, by omega⟩
 rw [Int.toNat_natCast, Int.toNat_natCast]
 have hne : l ≠ [] := fun e => by rw [e] at hjl; simp at hjl; omega
 obtain ⟨g, cap, _, rfl, _, hlc, hlm, _⟩ := Hp.openS hH hi hne hA
 have hkL : k < L.length := (List.getElem?_eq_some_iff.1 hi).1
 refine enter func66 rfl ntmps66 rfl ?_
 refine Sr (As (To ?_))
 refine Sr (Mm (Mm (Mm (Mm (Vy (zaJ rfl underlying25 rfl) ?_)))))
 obtain ⟨u0, hu0⟩ := zlb (P := prog) (nn := ⟨33, [], none⟩) (E := [(12, Ii (l.length : Int)), (11, .slice (some ⟨g, 0, none⟩) l.length cap), (10, Ii (j : Int)), (9, Ii (i : Int)), (8, .slice (some ⟨g, 0, none⟩) l.length cap), (6, .slice none 0 0), (0, .slice (some ⟨g, 0, none⟩) l.length cap), (1, Ii (i : Int)), (2, Ii (j : Int))]) (w := w) (ty := 25) (pos := "slices.go:225") (af := #[⟨0, .data⟩, ⟨1, .data⟩, ⟨2, .data⟩, ⟨4, .data⟩]) (ρd := some 13) (gd := none) (x := .tmp 8) (y := .tmp 9) (z := .tmp 10) (m := .tmp 12) (lo := i) (hi := j) (mx := l.length) (by omega) (by omega) hlc underlying25 sizeOf38 rfl rfl rfl rfl
 refine V_y hu0 rfl rfl rfl ?_
 refine To ?_
 refine zh (Sr (Mm (Mm (Vy (ql rfl rfl) (To ?_)))))
 refine Cc (fun hc => ?_) fun _ => ?_
 ·have : ((i : Int) == (j : Int)) = true := hc
  rw [beq_iff_eq] at this
  omega
 refine Sk ?_
 refine Sr (Mm (Vy (zaJ rfl underlying25 rfl) (As (To ?_))))
 refine zh ?_
 refine ZZ (Dw := Dw) 6 zH (by kernel_rfl) ?_
 simp only [List.take, List.drop]
 refine Qm (Qm ?_)
 refine Qv (fun w' hw' => zhQ (by omega) underlying25 sizeOf38 rfl rfl) (Qm (Qm ?_))
 refine Qv (fun w' hw' => ziW (by omega) hlc underlying25 sizeOf38 rfl rfl) ?_
 refine QU (fun w2 hk2 => ?_)
 try simp only [List.take, List.drop]
 have ht2 := Kp.tr hk2 hA hB; replace hH := Hp.kp hH hk2; replace hB := Bx hB ht2; replace hA := ht2.new
 refine zfn (Dw := Dw) (α := za) (i := i) (j := j) (ti := t38) hH hi (by omega) (by omega) underlying25 zap rfl hB hA rfl rfl (fun h => if_pos (by omega)) rfl ?_
 intro w3 hH3 ht3
 replace hB := Bx hB ht3; replace hA := ht3.new
 refine As (To ?_)
 refine Sr (Mm (Mm (Vy (zaJ rfl underlying25 rfl) (Mm ?_))))
 refine Vy (ziH (lo := i + (l.length - j)) (hi := l.length) (by omega) hlc (by omega) underlying25 sizeOf38 rfl rfl rfl) ?_
 have hml := zaT (l := l) (i := i) (j := j) (by omega) (by omega)
 refine zfm (Dw := Dw) (α := za) (lo := i + (l.length - j)) (n := l.length - (i + (l.length - j))) (l := zaU l i j) (i := k) (cap := cap) hH3 (by rw [List.getElem?_set_self hkL, hml]) (by omega) underlying25 zeroValue38 rfl (by simp [Value.cells, Value.oneCell']) hB hA rfl ?_
 intro w4 hH4 ht4
 rw [List.set_set, zeN (by omega) (by omega)] at hH4
 refine To ?_
 refine Sr (Mm (As (To ?_)))
 refine Rt (Res.one results66 rfl) ?_
 exact ⟨_, rfl, hH4, Tr.trans ht2 (Tr.trans ht3 ht4)⟩
theorem zbB (w : World) {A : Nat → Prop} {B : Nat} (hB : B ≤ w.heap.size) (hA : ∀ b, w.heap.size ≤ b → A b) (l : (List za)) (v_l : Value) (h_l : Sl A w v_l l) (k_ : Int) {L : List Ob} (hH : Hp B A w (L)) {r : (List za)} (hm : qB l k_ = some r) : Ret prog 35 #[v_l, Ii k_] w fun v w' => ∃ s0, ∃ A1 : Nat → Prop, v = s0 ∧ Hp B A1 w' (o_38 s0 r :: L) ∧ Tr Dw B A w A1 w' := by
 unfold qB at hm
 refine enter func35 rfl ntmps35 rfl ?_
 have hK : Tr Dw B A w A w := Tr.refl (Dw := Dw) hA
 refine Sr (As (To ?_))
 refine Sr (Mm ?_)
 obtain ⟨x3, hx3, hm⟩ := Bs hm
 refine Vc call32 (ZA (Dw := Dw) w hB hA l v_l h_l hH hx3) ?_
 rintro v4 w6 ⟨_, A7, rfl, hH8, ht9⟩
 obtain ⟨hK, hB, hA⟩ := U0 ht9 hK hB
 replace hH := hH8
 refine Mm (Mm (Vy (zN rfl rfl) ?_))
 obtain ⟨x10, hx10, hm⟩ := Bs hm
 refine Vc call66 (JT (Dw := Dw) w6 k_ (w64 (k_ + 1)) hH (k := 0) rfl hB hA hx10) ?_
 rintro v11 w12 ⟨_, rfl, hH13, ht14⟩
 replace hK := Tt hK ht14; replace hH := hH13
 refine As (To ?_)
 obtain rfl := Oi hm
 refine Rt (Res.one results35 rfl) ?_
 exact ⟨v11, A7, rfl, hH, hK⟩
theorem zch (w : World) {A : Nat → Prop} {B : Nat} (hB : B ≤ w.heap.size) (hA : ∀ b, w.heap.size ≤ b → A b) (p0 : ze) (b_p0 c_p0 : Nat) (v_p00 : Value) (h_p00 : Sl A w v_p00 p0.assigner.people) (v_p01 : Value) (h_p01 : Sl A w v_p01 p0.assigner.cals) (v_p02 : Value) (h_p02 : Sl A w v_p02 p0.assigner.steps) (v_p03 : Value) (v_p04 : Value) (h_p04 : Sl A w v_p04 p0.waiting) (v_p05 : Value) (h_p05 : Sl A w v_p05 p0.held) (m_p00 : Nat) (k_p0 : Vb A w c_p0 (Pt b_p0)) (p1 : Int) (b_p1 : Nat) (h_p1 : El A w b_p1 0 p1) {L : List Ob} (hH : Hp B A w (obC b_p0 [v_p00, v_p01, v_p02, v_p03, Ii p0.now, v_p04, v_p05, .map (some m_p00)] 58 :: o_4 v_p03 p0.assigner.away :: obRM (κ := Int) (α := za) m_p00 p0.work :: L)) {r : (Int × ze)} (hm : qy p0 p1 = some r) : Ret prog 33 #[Pt c_p0, Pt b_p1] w fun v w' => ∃ u1_0, ∃ u1_1, ∃ u1_2, ∃ u1_3, ∃ u1_4, ∃ u1_5, ∃ A1 : Nat → Prop, v = Ii r.1 ∧ Sl A1 w' u1_0 r.2.assigner.people ∧ Sl A1 w' u1_1 r.2.assigner.cals ∧ Sl A1 w' u1_2 r.2.assigner.steps ∧ Sl A1 w' u1_4 r.2.waiting ∧ Sl A1 w' u1_5 r.2.held ∧ Hp B A1 w' (obC b_p0 [u1_0, u1_1, u1_2, u1_3, Ii r.2.now, u1_4, u1_5, .map (some m_p00)] 58 :: o_4 u1_3 r.2.assigner.away :: obRM (κ := Int) (α := za) m_p00 r.2.work :: L) ∧ Tr Dw B A w A1 w' := by
 unfold qy at hm
 refine enter func33 rfl ntmps33 rfl ?_
 have hK : Tr Dw B A w A w := Tr.refl (Dw := Dw) hA
 refine Sr (As (To ?_))
 refine zh (Sr (Vy (qn k_p0.2.2 isAgg28 rfl) (Li h_p1 isAgg3 ?_)))
 replace hH := Hf 2 (Hf 2 (Hf 2 hH))
 obtain ⟨x14, hx14, hm⟩ := Bs hm
 refine Vc call31 (zaS (Dw := Dw) w hB hA p0 b_p0 v_p00 h_p00 v_p01 h_p01 v_p02 h_p02 v_p03 v_p04 h_p04 v_p05 h_p05 m_p00 p1 hH hx14) ?_
 rintro _ w15 ⟨A16, rfl, hH17, ht18⟩
 replace k_p0 := Vb.tr (Dw := Dw) k_p0 ht18
 replace h_p1 := El.tr h_p1 ht18
 obtain ⟨h_p00, h_p01, h_p02, h_p04, h_p05, hK, hB, hA⟩ := U5 ht18 hK hB h_p00 h_p01 h_p02 h_p04 h_p05
 replace hH := hH17
 refine As (To ?_)
 refine Sr (Mm (Vy (Qz rfl rfl) (To ?_)))
 obtain ⟨o19, ho19, hm⟩ := Bs hm
 refine zu (ι := (ze × Value × Value × Value × Value × Value × Value × (Nat → Prop))) (fun ⟨s20, v22, v24, v26, v28, v30, v32, A38⟩ => []) (fun ⟨s20, v22, v24, v26, v28, v30, v32, A38⟩ => fun w' => o19 = .fin s20 ∧ Sl A38 w' v22 s20.assigner.people ∧ Sl A38 w' v24 s20.assigner.cals ∧ Sl A38 w' v26 s20.assigner.steps ∧ Sl A38 w' v30 s20.waiting ∧ Sl A38 w' v32 s20.held ∧ Hp B A38 w' (obC b_p0 [v22, v24, v26, v28, Ii s20.now, v30, v32, .map (some m_p00)] 58 :: o_4 v28 s20.assigner.away :: obRM (κ := Int) (α := za) m_p00 s20.work :: L) ∧ Tr Dw B A16 w15 A38 w') ?_ ?_
 ·have hr21 : Tr Dw B A16 w15 A16 w15 := Tr.refl (Dw := Dw) hA
  refine Cc (fun hc40 => ?_) fun hc40 => ?_
  ·rw [if_pos hc40] at ho19
   refine qX (Dw := Dw) A16 10 [(1, 0), (1, 1), (1, 2), (1, 3), (0, 4), (1, 5), (2, 6), (1, 7), (1, 8), (4, 9)] zH (by kernel_rfl) (fun w41 hk42 => ?_)
   have ht43 := Kp.tr hk42 hA hB; replace hH := Hp.kp hH hk42
   replace k_p0 := Vb.tr (Dw := Dw) k_p0 ht43
   replace hr21 := Tt hr21 ht43; replace hB := Bx hB ht43; replace hA := ht43.new
   obtain ⟨h_p00, h_p01, h_p02, h_p04, h_p05⟩ := T5 ht43 h_p00 h_p01 h_p02 h_p04 h_p05
   refine zI rfl (Ql (fun w' hw' => (((World.cell?_of_block (hw'.2 _ k_p0.2.1 k_p0.1)).trans k_p0.2.2))) isAgg28 (zB (zI rfl (Ql (fun w' hw' => (((World.cell?_of_block (hw'.2 _ k_p0.2.1 k_p0.1)).trans k_p0.2.2))) isAgg28 (zB (zI rfl (Qn (zB (zI rfl ?_)))))))))
   refine Qv (fun w' hw' => Fc 6 underlying58 rfl sizeOf34 rfl rfl) (zB (qF rfl (Qc (Hc 6 0 hH rfl rfl) isAgg34 (zB (zI rfl (Qm (zB ?_)))))))
   refine qw (k := 0) rfl ?_
   obtain ⟨x44, hx44, ho19⟩ := Bs ho19
   refine Vc call34 (zbC (Dw := Dw) w41 hA p0.held v_p05 h_p05 x14 hx44) ?_
   rintro v45 w47 ⟨_, rfl, h46, hk48⟩
   obtain ⟨A49, ht50, hH51⟩ := Hp.addOwnd (Dw := Dw) hH hB hA hk48 h46
   replace k_p0 := Vb.tr (Dw := Dw) k_p0 ht50
   replace hr21 := Tt hr21 ht50; replace hB := Bx hB ht50; replace hA := ht50.new
   obtain ⟨h_p00, h_p01, h_p02, h_p04⟩ := T4 ht50 h_p00 h_p01 h_p02 h_p04
   replace hH := hH51
   refine V_CH (hk48) ?_
   refine zI rfl (Qn (zB (zI rfl (Qv (fun w' hw' => Fc 6 underlying58 rfl sizeOf34 rfl rfl) (zB ?_)))))
   refine qw (k := 2) rfl ?_
   have h57 := Sl.oc (Hp.any (α := zb) (e := 46) (v := v45) (l := x44) hH (i := 0) rfl)
   refine Sc Dw 6 [v_p00, v_p01, v_p02, v_p03, Ii p0.now, v_p04, v45, .map (some m_p00)] 1 hH h57 sizeOf34 hB hA ?_
   intro w52 hH53 ht54
   replace k_p0 := Vb.tr (Dw := Dw) k_p0 ht54
   replace hr21 := Tt hr21 ht54; replace hA := ht54.new
   obtain ⟨h_p00, h_p01, h_p02, h_p04⟩ := T4 ht54 h_p00 h_p01 h_p02 h_p04
   replace hH := hH53
   refine zaE ?_
   refine jC ?_
   show V _ _ _ _ [] _ _
   obtain rfl := Oi ho19
   refine zn (fun a ha58 => ?_)
   obtain ⟨A59, ht60, h61, hH62⟩ := Hp.freeze (Dw := Dw) (α := zb) (v := v45) (l := x44) hH (i := 0) rfl hA
   replace k_p0 := Vb.tr (Dw := Dw) k_p0 ht60
   replace hr21 := Tt hr21 ht60
   obtain ⟨h_p00, h_p01, h_p02, h_p04⟩ := T4 ht60 h_p00 h_p01 h_p02 h_p04
   replace hH := hH62
   exact ⟨((⟨p0.assigner, p0.now, p0.waiting, x44, p0.work⟩ : ze), v_p00, v_p01, v_p02, v_p03, v_p04, v45, A59), ha58.sub trivial, ⟨rfl, h_p00, h_p01, h_p02, h_p04, h61, hH, hr21⟩⟩
  rw [if_neg (nt hc40)] at ho19
  refine Sr (Vy (qn k_p0.2.2 isAgg28 rfl) (Li h_p1 isAgg3 ?_))
  replace hH := Hf 2 (Hf 2 (Hf 2 hH))
  obtain ⟨x64, hx64, ho19⟩ := Bs ho19
  refine Vc call30 (zaD (Dw := Dw) w15 hB hA p0 b_p0 v_p00 h_p00 v_p01 h_p01 v_p02 h_p02 v_p03 v_p04 h_p04 v_p05 h_p05 m_p00 p1 hH hx64) ?_
  rintro _ w65 ⟨A66, rfl, hH67, ht68⟩
  replace k_p0 := Vb.tr (Dw := Dw) k_p0 ht68
  replace hr21 := Tt hr21 ht68
  obtain ⟨h_p00, h_p01, h_p02, h_p04, h_p05, hK, hB, hA⟩ := U5 ht68 hK hB h_p00 h_p01 h_p02 h_p04 h_p05
  replace hH := hH67
  refine As (To ?_)
  refine Sr (Mm (Vy (Qz rfl rfl) (To ?_)))
  refine Cc (fun hc69 => ?_) fun hc69 => ?_
  ·rw [if_pos hc69] at ho19
   refine qX (Dw := Dw) A66 10 [(1, 0), (1, 1), (1, 2), (1, 3), (0, 4), (1, 5), (2, 6), (1, 7), (1, 8), (4, 9)] zH (by kernel_rfl) (fun w70 hk71 => ?_)
   have ht72 := Kp.tr hk71 hA hB; replace hH := Hp.kp hH hk71
   replace k_p0 := Vb.tr (Dw := Dw) k_p0 ht72
   replace hr21 := Tt hr21 ht72; replace hB := Bx hB ht72; replace hA := ht72.new
   obtain ⟨h_p00, h_p01, h_p02, h_p04, h_p05⟩ := T5 ht72 h_p00 h_p01 h_p02 h_p04 h_p05
   refine zI rfl (Ql (fun w' hw' => (((World.cell?_of_block (hw'.2 _ k_p0.2.1 k_p0.1)).trans k_p0.2.2))) isAgg28 (zB (zI rfl (Ql (fun w' hw' => (((World.cell?_of_block (hw'.2 _ k_p0.2.1 k_p0.1)).trans k_p0.2.2))) isAgg28 (zB (zI rfl (Qn (zB (zI rfl ?_)))))))))
   refine Qv (fun w' hw' => Fc 5 underlying58 rfl sizeOf25 rfl rfl) (zB (qF rfl (Qc (Hc 5 0 hH rfl rfl) isAgg25 (zB (zI rfl (Qm (zB ?_)))))))
   refine qw (k := 0) rfl ?_
   obtain ⟨x73, hx73, ho19⟩ := Bs ho19
   refine Vc call35 (zbB (Dw := Dw) w70 (B := w70.heap.size) (Nat.le_refl _) hA p0.waiting v_p04 h_p04 x64 Hp.nil hx73) ?_
   rintro v74 w76 ⟨_, A77, rfl, hH78, ht79⟩
   have hk80 : Kp Dw w70 w76 := ht79.below
   have hH81 := Hp.join (Dw := Dw) hH hB ht79 hH78
   have ht82 := Tr.lower (Dw := Dw) ht79 hB
   replace k_p0 := Vb.tr (Dw := Dw) k_p0 ht82
   replace hr21 := Tt hr21 ht82; replace hB := Bx hB ht82; replace hA := ht82.new
   obtain ⟨h_p00, h_p01, h_p02, h_p05⟩ := T4 ht82 h_p00 h_p01 h_p02 h_p05
   replace hH := hH81
   refine V_CH (hk80) ?_
   refine zI rfl (Qn (zB (zI rfl (Qv (fun w' hw' => Fc 5 underlying58 rfl sizeOf25 rfl rfl) (zB ?_)))))
   refine qw (k := 2) rfl ?_
   have h88 := Sl.oc (Hp.any (α := za) (e := 38) (v := v74) (l := x73) hH (i := 0) rfl)
   refine Sc Dw 5 [v_p00, v_p01, v_p02, v_p03, Ii p0.now, v74, v_p05, .map (some m_p00)] 1 hH h88 sizeOf25 hB hA ?_
   intro w83 hH84 ht85
   replace k_p0 := Vb.tr (Dw := Dw) k_p0 ht85
   replace hr21 := Tt hr21 ht85; replace hA := ht85.new
   obtain ⟨h_p00, h_p01, h_p02, h_p05⟩ := T4 ht85 h_p00 h_p01 h_p02 h_p05
   replace hH := hH84
   refine zaE ?_
   refine jC ?_
   show V _ _ _ _ [] _ _
   obtain rfl := Oi ho19
   refine zn (fun a ha89 => ?_)
   obtain ⟨A90, ht91, h92, hH93⟩ := Hp.freeze (Dw := Dw) (α := za) (v := v74) (l := x73) hH (i := 0) rfl hA
   replace k_p0 := Vb.tr (Dw := Dw) k_p0 ht91
   replace hr21 := Tt hr21 ht91
   obtain ⟨h_p00, h_p01, h_p02, h_p05⟩ := T4 ht91 h_p00 h_p01 h_p02 h_p05
   replace hH := hH93
   exact ⟨((⟨p0.assigner, p0.now, x73, p0.held, p0.work⟩ : ze), v_p00, v_p01, v_p02, v_p03, v74, v_p05, A90), ha89.sub trivial, ⟨rfl, h_p00, h_p01, h_p02, h92, h_p05, hH, hr21⟩⟩
  rw [if_neg (nt hc69)] at ho19
  refine Sr (As (To ?_))
  obtain rfl := Oi ho19
  rw [Lp.andThen_rt] at hm
  obtain rfl := Oi hm
  refine Rt (Res.one results33 rfl) ?_
  exact ⟨v_p00, v_p01, v_p02, v_p03, v_p04, v_p05, A66, rfl, h_p00, h_p01, h_p02, h_p04, h_p05, hH, hK⟩
 rintro ⟨s20, v22, v24, v26, v28, v30, v32, A38⟩ w35 ⟨rfl, h23, h25, h27, h31, h33, hH39, hk36⟩ a ha37
 rw [Lp.andThen_fin] at hm
 replace hK := Tr.trans hK hk36; replace hA := hk36.new; replace hH := hH39
 refine C_at (n := ⟨33, [], none⟩) (fun _ _ => rfl) ?_ ha37
 refine Sr (As (To ?_))
 obtain rfl := Oi hm
 refine Rt (Res.one results33 rfl) ?_
 exact ⟨v22, v24, v26, v28, v30, v32, A38, rfl, h23, h25, h27, h31, h33, hH, hK⟩
theorem zcU (w : World) {A : Nat → Prop} {B : Nat} (hB : B ≤ w.heap.size) (hA : ∀ b, w.heap.size ≤ b → A b) (r_ : ze) (b_r_ : Nat) (v_r_0 : Value) (h_r_0 : Sl A w v_r_0 r_.assigner.people) (v_r_1 : Value) (h_r_1 : Sl A w v_r_1 r_.assigner.cals) (v_r_2 : Value) (h_r_2 : Sl A w v_r_2 r_.assigner.steps) (v_r_3 : Value) (v_r_4 : Value) (h_r_4 : Sl A w v_r_4 r_.waiting) (v_r_5 : Value) (h_r_5 : Sl A w v_r_5 r_.held) (m_r_0 : Nat) (ticket : Int) (m : Int) {L : List Ob} (hH : Hp B A w (obC b_r_ [v_r_0, v_r_1, v_r_2, v_r_3, Ii r_.now, v_r_4, v_r_5, .map (some m_r_0)] 58 :: o_4 v_r_3 r_.assigner.away :: obRM (κ := Int) (α := za) m_r_0 r_.work :: L)) {r : ((List zb) × Int × ze)} (hm : qS r_ ticket m = some r) : Ret prog 8 #[Pt b_r_, Ii ticket, Ii m] w fun v w' => ∃ s0, ∃ u1_0, ∃ u1_1, ∃ u1_2, ∃ u1_3, ∃ u1_4, ∃ u1_5, ∃ A1 : Nat → Prop, v = .tuple #[s0, Ii r.2.1] ∧ Sl A1 w' u1_0 r.2.2.assigner.people ∧ Sl A1 w' u1_1 r.2.2.assigner.cals ∧ Sl A1 w' u1_2 r.2.2.assigner.steps ∧ Sl A1 w' u1_4 r.2.2.waiting ∧ Sl A1 w' u1_5 r.2.2.held ∧ Hp B A1 w' (o_46 s0 r.1 :: obC b_r_ [u1_0, u1_1, u1_2, u1_3, Ii r.2.2.now, u1_4, u1_5, .map (some m_r_0)] 58 :: o_4 u1_3 r.2.2.assigner.away :: obRM (κ := Int) (α := za) m_r_0 r.2.2.work :: L) ∧ Tr Dw B A w A1 w' := by
 unfold qS at hm
 refine enter func8 rfl ntmps8 rfl ?_
 have hK : Tr Dw B A w A w := Tr.refl (Dw := Dw) hA
 refine Sr ?_
 refine Zy rfl rfl ?_
 intro b14 w15 h16
 have hk17 := h16.kp (Dw := Dw)
 have h18 : Vb A w15 b14 (Pt b_r_) := h16.vb hA rfl
 have ht19 := Kp.tr hk17 hA hB; replace hH := Hp.kp hH hk17
 obtain ⟨h_r_0, h_r_1, h_r_2, h_r_4, h_r_5, hK, hB, hA⟩ := U5 ht19 hK hB h_r_0 h_r_1 h_r_2 h_r_4 h_r_5
 refine Zy rfl rfl ?_
 intro b20 w21 h22
 have hk24 := h22.kp (Dw := Dw)
 have h23 : El (α := Int) A w21 b20 0 ticket := h22.el hA rfl
 have ht25 := Kp.tr hk24 hA hB; replace hH := Hp.kp hH hk24
 replace h18 := Vb.tr (Dw := Dw) h18 ht25
 obtain ⟨h_r_0, h_r_1, h_r_2, h_r_4, h_r_5, hK, hB, hA⟩ := U5 ht25 hK hB h_r_0 h_r_1 h_r_2 h_r_4 h_r_5
 refine As (As (To ?_))
 refine Sr (Vy (qn h18.2.2 isAgg28 rfl) (Mm (Vy (qk rfl rfl) ?_)))
 replace hH : Hp B A w21 (obT :: obC b_r_ [v_r_0, v_r_1, v_r_2, v_r_3, Ii r_.now, v_r_4, v_r_5, .map (some m_r_0)] 58 :: o_4 v_r_3 r_.assigner.away :: obRM (κ := Int) (α := za) m_r_0 r_.work :: L) := Hp.addT hH
 replace hH := Hf 3 (Hf 3 (Hf 3 hH))
 obtain ⟨x26, hx26, hm⟩ := Bs hm
 refine Vc call27 (QR (Dw := Dw) w21 hB hA r_ b_r_ v_r_0 h_r_0 v_r_1 h_r_1 v_r_2 h_r_2 v_r_3 v_r_4 h_r_4 v_r_5 h_r_5 m_r_0 m (fun R => qy R ticket) 33 #[] #[Pt b14, Pt b20] obT call33 (fun w1 A1 L1 R u0 gu0 u1 gu1 u2 gu2 u3 u4 gu4 u5 gu5 r hB1 hA1 ht hH1 hm1 => zch (Dw := Dw) w1 hB1 hA1 R b_r_ b14 u0 gu0 u1 gu1 u2 gu2 u3 u4 gu4 u5 gu5 m_r_0 (Vb.tr (Dw := Dw) h18 ht) ticket b20 (El.tr h23 ht) hH1 hm1) hH hx26) ?_
 rintro _ w42 ⟨v27, v29, v31, v33, v35, v37, v39, A43, rfl, h30, h32, h34, h38, h40, hH44, ht45⟩
 replace h18 := Vb.tr (Dw := Dw) h18 ht45
 replace hK := Tt hK ht45; replace hH := hH44
 refine Vy (zD rfl rfl) (Vy (zD rfl rfl) (As (As (To ?_))))
 obtain rfl := Oi hm
 replace hH := Hd 4 (Hf 3 (Hf 3 (Hf 3 (Hf 3 hH))))
 refine Rt (Res.two results8 rfl rfl) ?_
 exact ⟨v27, v29, v31, v33, v35, v37, v39, A43, rfl, h30, h32, h34, h38, h40, hH, hK⟩
theorem zaA (w : World) {A : Nat → Prop} {B : Nat} (hB : B ≤ w.heap.size) (hA : ∀ b, w.heap.size ≤ b → A b) (r_ : ze) (b_r_ : Nat) (v_r_0 : Value) (h_r_0 : Sl A w v_r_0 r_.assigner.people) (v_r_1 : Value) (h_r_1 : Sl A w v_r_1 r_.assigner.cals) (v_r_2 : Value) (h_r_2 : Sl A w v_r_2 r_.assigner.steps) (v_r_3 : Value) (v_r_4 : Value) (h_r_4 : Sl A w v_r_4 r_.waiting) (v_r_5 : Value) (h_r_5 : Sl A w v_r_5 r_.held) (m_r_0 : Nat) (no : Int) (away : Bool) {L : List Ob} (hH : Hp B A w (obC b_r_ [v_r_0, v_r_1, v_r_2, v_r_3, Ii r_.now, v_r_4, v_r_5, .map (some m_r_0)] 58 :: o_4 v_r_3 r_.assigner.away :: obRM (κ := Int) (α := za) m_r_0 r_.work :: L)) {r : (Int × Int)} (hm : qu r_ no away = some r) : Ret prog 37 #[Pt b_r_, Ii no, .bool away] w fun v w' => ∃ A1 : Nat → Prop, v = .tuple #[Ii r.1, Ii r.2] ∧ Hp B A1 w' (obC b_r_ [v_r_0, v_r_1, v_r_2, v_r_3, Ii r_.now, v_r_4, v_r_5, .map (some m_r_0)] 58 :: o_4 v_r_3 r_.assigner.away :: obRM (κ := Int) (α := za) m_r_0 r_.work :: L) ∧ Tr Dw B A w A1 w' := by
 unfold qu at hm
 refine enter func37 rfl ntmps37 rfl ?_
 have hK : Tr Dw B A w A w := Tr.refl (Dw := Dw) hA
 refine Sr (As (As (To ?_)))
 refine Sr (Mm (Nc (Vy (Fc 0 underlying58 rfl sizeOf56 rfl rfl) (Vy (Fc 0 underlying56 rfl sizeOf22 rfl rfl) (Ld (Hc 0 0 hH rfl rfl) isAgg22 (Mm ?_))))))
 obtain ⟨x14, hx14, hm⟩ := Bs hm
 refine Vc call67 (JE (Dw := Dw) w hA r_.assigner.people v_r_0 h_r_0 no hx14) ?_
 rintro _ w15 ⟨rfl, hk16⟩
 have ht17 := Kp.tr hk16 hA hB; replace hH := Hp.kp hH hk16; replace hK := Tt hK ht17
 refine As (To ?_)
 refine zh (zl (Sr (Mm (Vy (zR rfl rfl) (As (To ?_))))))
 refine Cc (fun hc18 => ?_) fun hc18 => ?_
 ·rw [if_pos hc18] at hm
  refine Sr (As (As (To ?_)))
  obtain rfl := Oi hm
  refine Rt (Res.two results37 rfl rfl) ?_
  exact ⟨A, rfl, hH, hK⟩
 rw [if_neg (nt hc18)] at hm
 refine Sr (Mm (Nc (Vy (Fc 0 underlying58 rfl sizeOf56 rfl rfl) (Vy (Fc 3 underlying56 rfl sizeOf54 rfl rfl) (Ld (Hc 3 0 hH rfl rfl) isAgg54 (Mm ?_))))))
 obtain ⟨x19, hx19, hm⟩ := Bs hm
 refine ZQ (α := Bool) (e := 4) (v := v_r_3) (l := r_.assigner.away) hH (i := 1) rfl hx19 underlying54 sizeOf4 rfl rfl rfl ?_
 intro b20 o21 h22 hl23
 refine Ld (El.bool h22) isAgg4 (Mm (Vy (zlJ underlying4 rfl rfl) (As (To ?_))))
 refine Cc (fun hc24 => ?_) fun hc24 => ?_
 ·rw [if_pos hc24] at hm
  refine Sr (As (As (To ?_)))
  obtain rfl := Oi hm
  refine Rt (Res.two results37 rfl rfl) ?_
  exact ⟨A, rfl, hH, hK⟩
 rw [if_neg (nt hc24)] at hm
 refine Sk ?_
 refine Sr (Mm (As (As (To ?_))))
 obtain rfl := Oi hm
 refine Rt (Res.two results37 rfl rfl) ?_
 exact ⟨A, rfl, hH, hK⟩
theorem zcH (w : World) {A : Nat → Prop} {B : Nat} (hB : B ≤ w.heap.size) (hA : ∀ b, w.heap.size ≤ b → A b) (p0 : ze) (b_p0 c_p0 : Nat) (v_p00 : Value) (h_p00 : Sl A w v_p00 p0.assigner.people) (v_p01 : Value) (h_p01 : Sl A w v_p01 p0.assigner.cals) (v_p02 : Value) (h_p02 : Sl A w v_p02 p0.assigner.steps) (v_p03 : Value) (v_p04 : Value) (h_p04 : Sl A w v_p04 p0.waiting) (v_p05 : Value) (h_p05 : Sl A w v_p05 p0.held) (m_p00 : Nat) (k_p0 : Vb A w c_p0 (Pt b_p0)) (p1 : Int) (b_p1 : Nat) (h_p1 : El A w b_p1 0 p1) {L : List Ob} (hH : Hp B A w (obC b_p0 [v_p00, v_p01, v_p02, v_p03, Ii p0.now, v_p04, v_p05, .map (some m_p00)] 58 :: o_4 v_p03 p0.assigner.away :: obRM (κ := Int) (α := za) m_p00 p0.work :: L)) {r : (Int × ze)} (hm : qI p0 p1 = some r) : Ret prog 36 #[Pt c_p0, Pt b_p1] w fun v w' => ∃ u1_0, ∃ u1_1, ∃ u1_2, ∃ u1_3, ∃ u1_4, ∃ u1_5, ∃ A1 : Nat → Prop, v = Ii r.1 ∧ Sl A1 w' u1_0 r.2.assigner.people ∧ Sl A1 w' u1_1 r.2.assigner.cals ∧ Sl A1 w' u1_2 r.2.assigner.steps ∧ Sl A1 w' u1_4 r.2.waiting ∧ Sl A1 w' u1_5 r.2.held ∧ Hp B A1 w' (obC b_p0 [u1_0, u1_1, u1_2, u1_3, Ii r.2.now, u1_4, u1_5, .map (some m_p00)] 58 :: o_4 u1_3 r.2.assigner.away :: obRM (κ := Int) (α := za) m_p00 r.2.work :: L) ∧ Tr Dw B A w A1 w' := by
 unfold qI at hm
 refine enter func36 rfl ntmps36 rfl ?_
 have hK : Tr Dw B A w A w := Tr.refl (Dw := Dw) hA
 refine Sr (As (To ?_))
 refine Sr (Vy (qn k_p0.2.2 isAgg28 rfl) (Li h_p1 isAgg3 ?_))
 replace hH := Hf 2 (Hf 2 (Hf 2 hH))
 obtain ⟨x14, hx14, hm⟩ := Bs hm
 refine Vc call37 (zaA (Dw := Dw) w hB hA p0 b_p0 v_p00 h_p00 v_p01 h_p01 v_p02 h_p02 v_p03 v_p04 h_p04 v_p05 h_p05 m_p00 p1 false hH hx14) ?_
 rintro _ w15 ⟨A16, rfl, hH17, ht18⟩
 replace k_p0 := Vb.tr (Dw := Dw) k_p0 ht18
 replace h_p1 := El.tr h_p1 ht18
 obtain ⟨h_p00, h_p01, h_p02, h_p04, h_p05, hK, hB, hA⟩ := U5 ht18 hK hB h_p00 h_p01 h_p02 h_p04 h_p05
 replace hH := hH17
 refine Mm (Vy (zD rfl rfl) (Vy (zD rfl rfl) (As (As (To ?_)))))
 refine zh (Sr (Mm (Vy (ZW rfl rfl) (To ?_))))
 refine Cc (fun hc19 => ?_) fun hc19 => ?_
 ·rw [if_pos hc19] at hm
  refine Sr (Mm (As (To ?_)))
  obtain rfl := Oi hm
  refine Rt (Res.one results36 rfl) ?_
  exact ⟨v_p00, v_p01, v_p02, v_p03, v_p04, v_p05, A16, rfl, h_p00, h_p01, h_p02, h_p04, h_p05, hH, hK⟩
 rw [if_neg (nt hc19)] at hm
 refine Sk ?_
 refine Sr (As (As (To ?_)))
 refine zh (Sr (Vy (qn k_p0.2.2 isAgg28 rfl) (Nc (Vy (Fc 6 underlying58 rfl sizeOf34 rfl rfl) (Ld (Hc 6 0 hH rfl rfl) isAgg34 (Vy (zA h_p05 rfl underlying34 rfl) (Mm (To ?_))))))))
 replace hH : Hp B A16 w15 (o_46 (.slice none 0 0) ([] : (List zb)) :: obC b_p0 [v_p00, v_p01, v_p02, v_p03, Ii p0.now, v_p04, v_p05, .map (some m_p00)] 58 :: o_4 v_p03 p0.assigner.away :: obRM (κ := Int) (α := za) m_p00 p0.work :: L) := Hp.addNil (α := zb) (e := 46) hH
 replace hH : Hp B A16 w15 (o_46 (.slice none 0 0) ([] : (List zb)) :: o_46 (.slice none 0 0) ([] : (List zb)) :: obC b_p0 [v_p00, v_p01, v_p02, v_p03, Ii p0.now, v_p04, v_p05, .map (some m_p00)] 58 :: o_4 v_p03 p0.assigner.away :: obRM (κ := Int) (α := za) m_p00 p0.work :: L) := Hp.addNil (α := zb) (e := 46) hH
 have hn48 := Sl.le h_p05
 obtain ⟨o20, ho20, hm⟩ := Bs hm
 refine zu (ι := (((List zb) × (List zb)) × Value × Value × (Nat → Prop))) (fun ⟨s21, v27, v29, A31⟩ => [(0, Pt c_p0), (1, Pt b_p1), (3, Ii x14.1), (5, v27), (6, v29)]) (fun ⟨s21, v27, v29, A31⟩ => fun w' => o20 = .fin s21 ∧ Hp B A31 w' (o_46 v29 s21.2 :: o_46 v27 s21.1 :: obC b_p0 [v_p00, v_p01, v_p02, v_p03, Ii p0.now, v_p04, v_p05, .map (some m_p00)] 58 :: o_4 v_p03 p0.assigner.away :: obRM (κ := Int) (α := za) m_p00 p0.work :: L) ∧ Tr Dw B A16 w15 A31 w') ?_ ?_
 ·refine zl ?_
  refine zS ho20 (fun k23 s33 a w' => ∃ i : (Value × Value × (Nat → Prop)), Has ⟨98, [], none⟩ a ([(0, Pt c_p0), (1, Pt b_p1), (3, Ii x14.1), (5, i.1), (6, i.2.1), (25, v_p05), (26, Ii (p0.held.length : Int)), (27, Ii (k23 : Int))]) ∧ Hp B i.2.2 w' (o_46 i.2.1 s33.2 :: o_46 i.1 s33.1 :: obC b_p0 [v_p00, v_p01, v_p02, v_p03, Ii p0.now, v_p04, v_p05, .map (some m_p00)] 58 :: o_4 v_p03 p0.assigner.away :: obRM (κ := Int) (α := za) m_p00 p0.work :: L) ∧ Tr Dw B A16 w15 i.2.2 w') (fun a ha => ⟨(.slice none 0 0, .slice none 0 0, A16), ha.sb, ⟨hH, Tr.refl (Dw := Dw) hA⟩⟩) ?_
  rintro K k23 s33 a w34 ⟨⟨v35, v37, A39⟩, ha118, hH40, hr22⟩ hle44 K47 h46
  refine C_of ?_ ha118
  replace k_p0 := Vb.tr (Dw := Dw) k_p0 hr22
  replace h_p1 := El.tr h_p1 hr22; replace h_p05 := Sl.tr h_p05 hr22; replace hB := Bx hB hr22; replace hA := hr22.new; replace hH := hH40
  refine Sr (Vy (zR rfl rfl) (To ?_))
  refine zh ?_
  refine Cc (fun hc49 => ?_) fun hc49 => ?_
  ·have hlt45 := zL hc49
   obtain ⟨x41, h42, h43⟩ := K47 hlt45
   refine Sk ?_
   refine zh ?_
   obtain ⟨s51, ho50, h42⟩ := Bs h42
   refine zu (ι := (Value × Value × (Nat → Prop))) (fun ⟨v53, v55, A60⟩ => [(0, Pt c_p0), (1, Pt b_p1), (3, Ii x14.1), (5, v53), (6, v55), (25, v_p05), (26, Ii (p0.held.length : Int)), (27, Ii (k23 : Int))]) (fun ⟨v53, v55, A60⟩ => fun w' => Hp B A60 w' (o_46 v55 s51.2 :: o_46 v53 s51.1 :: obC b_p0 [v_p00, v_p01, v_p02, v_p03, Ii p0.now, v_p04, v_p05, .map (some m_p00)] 58 :: o_4 v_p03 p0.assigner.away :: obRM (κ := Int) (α := za) m_p00 p0.work :: L) ∧ Tr Dw B A39 w34 A60 w') ?_ ?_
   ·have hr52 : Tr Dw B A39 w34 A39 w34 := Tr.refl (Dw := Dw) hA
    refine zl (Sr ?_)
    obtain ⟨x62, hx62, ho50⟩ := Bs ho50
    refine zy h_p05 hx62 underlying34 sizeOf46 rfl rfl rfl ?_
    intro b63 o64 h65
    obtain ⟨h66, _⟩ := qd h65
    refine Vy (zx h66 isAgg46 sizeOf46 rfl) ?_
    refine Zf zeroValue46 rfl ?_
    intro b67 w68 h69
    refine Sn h69 sizeOf46 ?_
    intro w70 h71
    have hk73 := h71.kp (Dw := Dw)
    have h72 : El (α := zb) A39 w70 b67 0 x62 := h71.el hA ⟨[Ii x62.ticket], _, rfl, rfl, ⟨[Ii x62.person], _, rfl, rfl, ⟨[Ii x62.weight], _, rfl, rfl, rfl⟩⟩⟩
    have ht74 := Kp.tr hk73 hA hB; replace hH := Hp.kp hH hk73
    replace k_p0 := Vb.tr (Dw := Dw) k_p0 ht74
    replace h_p1 := El.tr h_p1 ht74; replace hr52 := Tt hr52 ht74; replace hB := Bx hB ht74; replace hA := ht74.new
    refine To ?_
    refine Sr ?_
    have h75 := jk h72
    refine Fa underlying46 rfl sizeOf3 (Li h75 isAgg3 (Li h_p1 isAgg3 (Vy (ql rfl rfl) (To ?_))))
    obtain ⟨s77, ho76, ho50⟩ := Bs ho50
    refine zu (ι := (Value × Value × (Nat → Prop))) (fun ⟨v79, v81, A86⟩ => [(0, Pt c_p0), (1, Pt b_p1), (3, Ii x14.1), (5, v79), (6, v81), (25, v_p05), (26, Ii (p0.held.length : Int)), (27, Ii (k23 : Int))]) (fun ⟨v79, v81, A86⟩ => fun w' => Hp B A86 w' (o_46 v81 s77.2 :: o_46 v79 s77.1 :: obC b_p0 [v_p00, v_p01, v_p02, v_p03, Ii p0.now, v_p04, v_p05, .map (some m_p00)] 58 :: o_4 v_p03 p0.assigner.away :: obRM (κ := Int) (α := za) m_p00 p0.work :: L) ∧ Tr Dw B A39 w70 A86 w') ?_ ?_
    ·have hr78 : Tr Dw B A39 w70 A39 w70 := Tr.refl (Dw := Dw) hA
     refine Cc (fun hc88 => ?_) fun hc88 => ?_
     ·rw [if_pos hc88] at ho76
      refine zo (Mm ?_)
      obtain ⟨h89, _⟩ := qd h72
      refine Vy (zx h89 isAgg46 sizeOf46 rfl) ?_
      refine zX (Dw := Dw) (cells := #[Ii x62.ticket, Ii x62.person, Ii x62.weight, Ii x62.since]) (l := ([x62] : List zb)) (len := 1) underlying34 sizeOf46 zeroValue46 rfl (by kernel_rfl) (show (1 * 4 : Nat) ≠ 0 by decide) (show (1 * 4 : Nat) ≤ 2 ^ 24 by decide) hA ⟨[Ii x62.ticket, Ii x62.person, Ii x62.weight, Ii x62.since], _, rfl, ⟨[Ii x62.ticket], _, rfl, rfl, ⟨[Ii x62.person], _, rfl, rfl, ⟨[Ii x62.weight], _, rfl, rfl, rfl⟩⟩⟩, rfl⟩ rfl rfl ?_
      intro v90 w91 hk93 h92
      have ht94 := Kp.tr hk93 hA hB; replace hH := Hp.kp hH hk93
      replace k_p0 := Vb.tr (Dw := Dw) k_p0 ht94
      replace hr78 := Tt hr78 ht94; replace hB := Bx hB ht94; replace hA := ht94.new
      obtain ⟨x95, hx95, ho76⟩ := Bs ho76
      refine Zv (Dw := Dw) (e := 46) (v := v35) (l := s33.1) (ti := t46) (bytes := 32) (lim := 4398046511104) hH (i := 1) rfl h92 hx95 underlying34 jb rfl rfl rfl rfl (by decide) (by decide) (by decide) hB hA rfl rfl rfl ?_
      intro v96 w97 A98 hH99 ht100
      replace k_p0 := Vb.tr (Dw := Dw) k_p0 ht100
      replace hr78 := Tt hr78 ht100; replace hH := hH99
      refine As ?_
      obtain rfl := Oi ho76
      refine zn (fun a ha101 => ?_)
      exact ⟨(v96, v37, A98), ha101.sb, ⟨hH, hr78⟩⟩
     rw [if_neg (nt hc88)] at ho76
     refine zo (Mm ?_)
     obtain ⟨h102, _⟩ := qd h72
     refine Vy (zx h102 isAgg46 sizeOf46 rfl) ?_
     refine zX (Dw := Dw) (cells := #[Ii x62.ticket, Ii x62.person, Ii x62.weight, Ii x62.since]) (l := ([x62] : List zb)) (len := 1) underlying34 sizeOf46 zeroValue46 rfl (by kernel_rfl) (show (1 * 4 : Nat) ≠ 0 by decide) (show (1 * 4 : Nat) ≤ 2 ^ 24 by decide) hA ⟨[Ii x62.ticket, Ii x62.person, Ii x62.weight, Ii x62.since], _, rfl, ⟨[Ii x62.ticket], _, rfl, rfl, ⟨[Ii x62.person], _, rfl, rfl, ⟨[Ii x62.weight], _, rfl, rfl, rfl⟩⟩⟩, rfl⟩ rfl rfl ?_
     intro v103 w104 hk106 h105
     have ht107 := Kp.tr hk106 hA hB; replace hH := Hp.kp hH hk106
     replace k_p0 := Vb.tr (Dw := Dw) k_p0 ht107
     replace hr78 := Tt hr78 ht107; replace hB := Bx hB ht107; replace hA := ht107.new
     obtain ⟨x108, hx108, ho76⟩ := Bs ho76
     refine Zv (Dw := Dw) (e := 46) (v := v37) (l := s33.2) (ti := t46) (bytes := 32) (lim := 4398046511104) hH (i := 0) rfl h105 hx108 underlying34 jb rfl rfl rfl rfl (by decide) (by decide) (by decide) hB hA rfl rfl rfl ?_
     intro v109 w110 A111 hH112 ht113
     replace k_p0 := Vb.tr (Dw := Dw) k_p0 ht113
     replace hr78 := Tt hr78 ht113; replace hH := hH112
     refine As ?_
     obtain rfl := Oi ho76
     refine zn (fun a ha114 => ?_)
     exact ⟨(v35, v109, A111), ha114.sb, ⟨hH, hr78⟩⟩
    rintro ⟨v79, v81, A86⟩ w83 ⟨hH87, hk84⟩ a ha85
    replace k_p0 := Vb.tr (Dw := Dw) k_p0 hk84
    replace hr52 := Tr.trans hr52 hk84; replace hA := hk84.new; replace hH := hH87
    obtain rfl := Oi ho50
    exact ⟨(v79, v81, A86), ha85.sb, ⟨hH, hr52⟩⟩
   rintro ⟨v53, v55, A60⟩ w57 ⟨hH61, hk58⟩ a ha59
   replace k_p0 := Vb.tr (Dw := Dw) k_p0 hk58
   replace hr22 := Tr.trans hr22 hk58; replace hA := hk58.new; replace hH := hH61
   refine C_at (n := ⟨98, [], none⟩) (fun _ _ => rfl) ?_ ha59
   refine zo (Vy (zN rfl rfl) (Mm ?_))
   obtain rfl := Oi h42
   refine zn (fun a ha116 => ?_)
   exact ⟨(s51.1, s51.2), hlt45, h43, ⟨(v53, v55, A60), ha116.sub ⟨rfl, rfl, rfl, rfl, rfl, rfl, rfl, Ws hlt45 hn48, trivial⟩, ⟨hH, hr22⟩⟩⟩
  refine zQ (fun a ha117 => ?_)
  exact ⟨((s33.1, s33.2), v35, v37, A39), ha117.sb, ⟨(h46 (zK hle44 hc49)).symm, hH, hr22⟩⟩
 rintro ⟨s21, v27, v29, A31⟩ w24 ⟨rfl, hH32, hk25⟩ a ha26
 rw [Lp.andThen_fin] at hm
 replace k_p0 := Vb.tr (Dw := Dw) k_p0 hk25
 replace h_p1 := El.tr h_p1 hk25; replace h_p00 := Sl.tr h_p00 hk25; replace h_p01 := Sl.tr h_p01 hk25; replace h_p02 := Sl.tr h_p02 hk25; replace h_p04 := Sl.tr h_p04 hk25; replace h_p05 := Sl.tr h_p05 hk25; replace hK := Tr.trans hK hk25; replace hB := Nat.le_trans hB hk25.ex.size; replace hA := hk25.new; replace hH := hH32
 refine C_at (n := ⟨98, [], none⟩) (fun _ _ => rfl) ?_ ha26
 refine zh (Sr (Vy (qn k_p0.2.2 isAgg28 rfl) (Nc (Vy (Fc 5 underlying58 rfl sizeOf25 rfl rfl) (Ld (Hc 5 2 hH rfl rfl) isAgg25 (Vy (zA h_p04 rfl underlying25 rfl) (Mm (Vy (zA (Hp.any (α := zb) (e := 46) (v := v27) (l := s21.1) hH (i := 1) rfl) rfl underlying34 rfl) (Vy (zN rfl rfl) ?_)))))))))
 refine Vy (qz rfl rfl) (To ?_)
 refine Cc (fun hc119 => ?_) fun hc119 => ?_
 ·rw [if_pos hc119] at hm
  refine Sr (As (To ?_))
  obtain rfl := Oi hm
  replace hH := Hd 3 (Hd 3 (Hf 4 (Hf 4 (Hf 4 hH))))
  refine Rt (Res.one results36 rfl) ?_
  exact ⟨v_p00, v_p01, v_p02, v_p03, v_p04, v_p05, A31, rfl, h_p00, h_p01, h_p02, h_p04, h_p05, hH, hK⟩
 rw [if_neg (nt hc119)] at hm
 refine Sk ?_
 refine Sr (Mm ?_)
 replace hH := Hf 1 hH
 obtain ⟨x120, hx120, hm⟩ := Bs hm
 refine Vc call26 (zcb (Dw := Dw) w24 hB hA s21.1 v27 hH hx120) ?_
 rintro _ w121 ⟨A122, rfl, hH123, ht124⟩
 replace k_p0 := Vb.tr (Dw := Dw) k_p0 ht124
 replace h_p1 := El.tr h_p1 ht124
 obtain ⟨h_p00, h_p01, h_p02, h_p04, hK, hB, hA⟩ := U4 ht124 hK hB h_p00 h_p01 h_p02 h_p04
 replace hH := hH123
 refine To ?_
 refine Sr (Vy (qn k_p0.2.2 isAgg28 rfl) (Nc (Vy (Fc 5 underlying58 rfl sizeOf25 rfl rfl) (Ld (Hc 5 2 hH rfl rfl) isAgg25 ?_))))
 obtain ⟨x125, hx125, hm⟩ := Bs hm
 refine Vc call32 (ZA (Dw := Dw) w121 hB hA p0.waiting v_p04 h_p04 hH hx125) ?_
 rintro v126 w128 ⟨_, A129, rfl, hH130, ht131⟩
 replace k_p0 := Vb.tr (Dw := Dw) k_p0 ht131
 replace h_p1 := El.tr h_p1 ht131
 obtain ⟨h_p00, h_p01, h_p02, hK, hB, hA⟩ := U3 ht131 hK hB h_p00 h_p01 h_p02
 replace hH := hH130
 refine As (To ?_)
 refine zh (Sr (Mm (Vy (zA (Hp.any (α := zb) (e := 46) (v := v27) (l := x120) hH (i := 1) rfl) rfl underlying34 rfl) (Mm (To ?_)))))
 have hn156 := Hp.le (α := zb) (e := 46) (v := v27) (l := x120) hH (i := 1) rfl
 obtain ⟨o132, ho132, hm⟩ := Bs hm
 refine zu (ι := ((List za) × Value × (Nat → Prop))) (fun ⟨s133, v139, A141⟩ => [(0, Pt c_p0), (3, Ii x14.1), (6, v29), (9, v139)]) (fun ⟨s133, v139, A141⟩ => fun w' => o132 = .fin s133 ∧ Hp B A141 w' (o_38 v139 s133 :: o_46 v27 x120 :: o_46 v29 s21.2 :: obC b_p0 [v_p00, v_p01, v_p02, v_p03, Ii p0.now, v_p04, v_p05, .map (some m_p00)] 58 :: o_4 v_p03 p0.assigner.away :: obRM (κ := Int) (α := za) m_p00 p0.work :: L) ∧ Tr Dw B A129 w128 A141 w') ?_ ?_
 ·refine zl ?_
  refine zS ho132 (fun k135 s143 a w' => ∃ i : (Value × (Nat → Prop)), Has ⟨98, [], none⟩ a ([(0, Pt c_p0), (1, Pt b_p1), (3, Ii x14.1), (6, v29), (9, i.1), (60, v27), (61, Ii (x120.length : Int)), (62, Ii (k135 : Int))]) ∧ Hp B i.2 w' (o_38 i.1 s143 :: o_46 v27 x120 :: o_46 v29 s21.2 :: obC b_p0 [v_p00, v_p01, v_p02, v_p03, Ii p0.now, v_p04, v_p05, .map (some m_p00)] 58 :: o_4 v_p03 p0.assigner.away :: obRM (κ := Int) (α := za) m_p00 p0.work :: L) ∧ Tr Dw B A129 w128 i.2 w') (fun a ha => ⟨(v126, A129), ha.sb, ⟨hH, Tr.refl (Dw := Dw) hA⟩⟩) ?_
  rintro K k135 s143 a w144 ⟨⟨v145, A147⟩, ha217, hH148, hr134⟩ hle152 K155 h154
  refine C_of ?_ ha217
  replace k_p0 := Vb.tr (Dw := Dw) k_p0 hr134
  replace h_p1 := El.tr h_p1 hr134; replace hB := Bx hB hr134; replace hA := hr134.new; replace hH := hH148
  refine Sr (Vy (zR rfl rfl) (To ?_))
  refine zh ?_
  refine Cc (fun hc157 => ?_) fun hc157 => ?_
  ·have hlt153 := zL hc157
   obtain ⟨x149, h150, h151⟩ := K155 hlt153
   refine Sk ?_
   refine zh (zl (Sr ?_))
   obtain ⟨x158, hx158, h150⟩ := Bs h150
   refine ZQ (α := zb) (e := 46) (v := v27) (l := x120) hH (i := 1) rfl hx158 underlying34 sizeOf46 rfl rfl rfl ?_
   intro b159 o160 h161 hl162
   obtain ⟨h163, _⟩ := qd h161
   refine Vy (zx h163 isAgg46 sizeOf46 rfl) ?_
   refine Zf zeroValue46 rfl ?_
   intro b164 w165 h166
   refine Sn h166 sizeOf46 ?_
   intro w167 h168
   have hk170 := h168.kp (Dw := Dw)
   have h169 : El (α := zb) A147 w167 b164 0 x158 := h168.el hA ⟨[Ii x158.ticket], _, rfl, rfl, ⟨[Ii x158.person], _, rfl, rfl, ⟨[Ii x158.weight], _, rfl, rfl, rfl⟩⟩⟩
   have ht171 := Kp.tr hk170 hA hB; replace hH := Hp.kp hH hk170
   replace k_p0 := Vb.tr (Dw := Dw) k_p0 ht171
   replace h_p1 := El.tr h_p1 ht171; replace hr134 := Tt hr134 ht171; replace hB := Bx hB ht171; replace hA := ht171.new
   refine To ?_
   refine zh ?_
   refine zaL (Dw := Dw) (B := B) (k := 7) [(12, 38, .agg #[Ii 0, Ii 0, Ii 0, Ii 0, Ii 0, .slice none 0 0])] [(72, 6)] zH (by kernel_rfl) rfl ⟨⟨_, _, _, rfl, by simp⟩, zeroValue38, trivial⟩ ⟨⟨_, _, _, rfl, by decide, by decide⟩, by decide, rfl, sizeOf38, trivial⟩ rfl rfl (by decide) hH hB hA ?_
   simp only [List.take]
   refine Ql (fun w' hw' => ((Vb.kp (Dw := Dw) k_p0 hw').2.2)) isAgg28 (Qn (Qv (fun w' hw' => Fc 7 underlying58 rfl sizeOf33 rfl rfl) (Qc (Hc 7 3 hH rfl rfl) isAgg33 ?_)))
   have h178 := qv h169
   refine Qf underlying46 rfl sizeOf3 (Qi h178 isAgg3 ?_)
   obtain ⟨c181, h182, h184⟩ := zlP (Dw := Dw) (P := prog) (n := ⟨98, [], none⟩) (κ := Int) (α := za) (z := ⟨0, 0, 0, 0, 0, []⟩) (zc := #[Ii 0, Ii 0, Ii 0, Ii 0, Ii 0, .slice none 0 0]) (l := p0.work) (ty := 38) (pos := "router.go:202") (af := #[⟨3, .data⟩, ⟨5, .data⟩]) hH (i := 5) rfl x158.ticket underlying33 underlying3 zeroValue38 (⟨[_], _, rfl, rfl, ⟨[_], _, rfl, rfl, ⟨[_], _, rfl, rfl, ⟨[_], _, rfl, rfl, ⟨[_], _, rfl, rfl, ⟨_, rfl, Sl.nil⟩⟩⟩⟩⟩⟩)
   obtain ⟨v179, h183, h180⟩ := zak h182
   obtain rfl := zhn h183
   refine Qv (fun w' hw' => h184 hw' rfl rfl) ?_
   have h187 := Sl.oc h180
   refine ZK fun a ha => ⟨_, [.agg #[Ii (((zw p0.work x158.ticket).getD (⟨0, 0, 0, 0, 0, []⟩)).ticket), Ii (((zw p0.work x158.ticket).getD (⟨0, 0, 0, 0, 0, []⟩)).weight), Ii (((zw p0.work x158.ticket).getD (⟨0, 0, 0, 0, 0, []⟩)).urgency), Ii (((zw p0.work x158.ticket).getD (⟨0, 0, 0, 0, 0, []⟩)).since), Ii (((zw p0.work x158.ticket).getD (⟨0, 0, 0, 0, 0, []⟩)).former), v179]], ha, rfl, rfl, ⟨rfl, (by exact (List.forall_mem_cons.2 ⟨rfl, (List.forall_mem_cons.2 ⟨rfl, (List.forall_mem_cons.2 ⟨rfl, (List.forall_mem_cons.2 ⟨rfl, (List.forall_mem_cons.2 ⟨rfl, (List.forall_mem_cons.2 ⟨h187, (fun _ h => nomatch h)⟩)⟩)⟩)⟩)⟩)⟩)), trivial⟩, fun b172 w173 A174 hH175 ht176 a ha177 => ?_⟩
   replace k_p0 := Vb.tr (Dw := Dw) k_p0 ht176
   replace h_p1 := El.tr h_p1 ht176; replace h169 := El.tr h169 ht176; replace h180 := Sl.tr h180 ht176; replace hr134 := Tt hr134 ht176; replace hB := Bx hB ht176; replace hA := ht176.new; replace hH := hH175
   refine C_at (n := ⟨98, [], none⟩) (fun _ _ => rfl) ?_ ha177
   refine zh ?_
   refine qX (Dw := Dw) A174 7 [(1, 0), (1, 1), (1, 2), (1, 3), (3, 4), (1, 5), (3, 6)] zH (by kernel_rfl) (fun w188 hk189 => ?_)
   have ht190 := Kp.tr hk189 hA hB; replace hH := Hp.kp hH hk189
   replace k_p0 := Vb.tr (Dw := Dw) k_p0 ht190
   replace h_p1 := El.tr h_p1 ht190; replace h169 := El.tr h169 ht190; replace h180 := Sl.tr h180 ht190; replace hr134 := Tt hr134 ht190; replace hB := Bx hB ht190; replace hA := ht190.new
   refine zI rfl ?_
   have h191 := zaP h169
   refine Qf underlying46 rfl sizeOf3 (zB (zI rfl (Ql (fun w' hw' => (El.int (El.keep h191 (XA.ex hw')))) isAgg3 (zB (zI rfl (Ql (fun w' hw' => (El.int (El.keep h_p1 (XA.ex hw')))) isAgg3 (zB (zI rfl (Qv (fun w' hw' => Fc 1 underlying38 rfl sizeOf3 rfl rfl) ?_)))))))))
   refine zB ?_
   refine qw (k := 1) rfl ?_
   refine ZG (Dw := Dw) (off := 1) (ds := [Ii (((zw p0.work x158.ticket).getD (⟨0, 0, 0, 0, 0, []⟩)).ticket), Ii x158.weight, Ii (((zw p0.work x158.ticket).getD (⟨0, 0, 0, 0, 0, []⟩)).urgency), Ii (((zw p0.work x158.ticket).getD (⟨0, 0, 0, 0, 0, []⟩)).since), Ii (((zw p0.work x158.ticket).getD (⟨0, 0, 0, 0, 0, []⟩)).former), v179]) hH (i := 0) rfl sizeOf3 rfl (Nat.le_of_ble_eq_true rfl) (by simp [Value.cells, Value.oneCell']) rfl hB hA rfl rfl ?_
   intro w192 hH193 ht194
   replace k_p0 := Vb.tr (Dw := Dw) k_p0 ht194
   replace h180 := Sl.tr h180 ht194; replace hr134 := Tt hr134 ht194; replace hB := Bx hB ht194; replace hA := ht194.new; replace hH := hH193
   refine zeC (XA.tr (Dw := Dw) ht194) ?_
   refine zI rfl (Qv (fun w' hw' => Fc 4 underlying38 rfl sizeOf3 rfl rfl) (zB ?_))
   refine qw (k := 1) rfl ?_
   refine ZG (Dw := Dw) (off := 4) (ds := [Ii (((zw p0.work x158.ticket).getD (⟨0, 0, 0, 0, 0, []⟩)).ticket), Ii x158.weight, Ii (((zw p0.work x158.ticket).getD (⟨0, 0, 0, 0, 0, []⟩)).urgency), Ii (((zw p0.work x158.ticket).getD (⟨0, 0, 0, 0, 0, []⟩)).since), Ii p1, v179]) hH (i := 0) rfl sizeOf3 rfl (Nat.le_of_ble_eq_true rfl) (by simp [Value.cells, Value.oneCell']) rfl hB hA rfl rfl ?_
   intro w195 hH196 ht197
   replace k_p0 := Vb.tr (Dw := Dw) k_p0 ht197
   replace h180 := Sl.tr h180 ht197; replace hr134 := Tt hr134 ht197; replace hB := Bx hB ht197; replace hA := ht197.new; replace hH := hH196
   refine zeC (XA.tr (Dw := Dw) ht197) ?_
   refine jC ?_
   show V _ _ _ _ [] _ _
   refine To ?_
   refine zo (Mm (Vy (zx (Hp.part (off := 0) (n := 6) (ds := [Ii (((zw p0.work x158.ticket).getD (⟨0, 0, 0, 0, 0, []⟩)).ticket), Ii x158.weight, Ii (((zw p0.work x158.ticket).getD (⟨0, 0, 0, 0, 0, []⟩)).urgency), Ii (((zw p0.work x158.ticket).getD (⟨0, 0, 0, 0, 0, []⟩)).since), Ii p1, v179]) hH (i := 0) rfl rfl) isAgg38 sizeOf38 rfl) ?_))
   refine zX (Dw := Dw) (cells := #[Ii (((zw p0.work x158.ticket).getD (⟨0, 0, 0, 0, 0, []⟩)).ticket), Ii x158.weight, Ii (((zw p0.work x158.ticket).getD (⟨0, 0, 0, 0, 0, []⟩)).urgency), Ii (((zw p0.work x158.ticket).getD (⟨0, 0, 0, 0, 0, []⟩)).since), Ii p1, v179]) (l := ([(⟨((zw p0.work x158.ticket).getD (⟨0, 0, 0, 0, 0, []⟩)).ticket, x158.weight, ((zw p0.work x158.ticket).getD (⟨0, 0, 0, 0, 0, []⟩)).urgency, ((zw p0.work x158.ticket).getD (⟨0, 0, 0, 0, 0, []⟩)).since, p1, ((zw p0.work x158.ticket).getD (⟨0, 0, 0, 0, 0, []⟩)).needs⟩ : za)] : List za)) (len := 1) underlying25 sizeOf38 zeroValue38 rfl (by obtain ⟨a202, c203, e204, _⟩ := Sl.form h180; subst e204; generalize (((zw p0.work x158.ticket).getD (⟨0, 0, 0, 0, 0, []⟩)).urgency : Int) = z205; generalize (((zw p0.work x158.ticket).getD (⟨0, 0, 0, 0, 0, []⟩)).ticket : Int) = z206; generalize (((zw p0.work x158.ticket).getD (⟨0, 0, 0, 0, 0, []⟩)).since : Int) = z207; kernel_rfl) (show (1 * 6 : Nat) ≠ 0 by decide) (show (1 * 6 : Nat) ≤ 2 ^ 24 by decide) hA ⟨[Ii (((zw p0.work x158.ticket).getD (⟨0, 0, 0, 0, 0, []⟩)).ticket), Ii x158.weight, Ii (((zw p0.work x158.ticket).getD (⟨0, 0, 0, 0, 0, []⟩)).urgency), Ii (((zw p0.work x158.ticket).getD (⟨0, 0, 0, 0, 0, []⟩)).since), Ii p1, v179], _, rfl, ⟨[Ii (((zw p0.work x158.ticket).getD (⟨0, 0, 0, 0, 0, []⟩)).ticket)], _, rfl, rfl, ⟨[Ii x158.weight], _, rfl, rfl, ⟨[Ii (((zw p0.work x158.ticket).getD (⟨0, 0, 0, 0, 0, []⟩)).urgency)], _, rfl, rfl, ⟨[Ii (((zw p0.work x158.ticket).getD (⟨0, 0, 0, 0, 0, []⟩)).since)], _, rfl, rfl, ⟨[Ii p1], _, rfl, rfl, ⟨_, rfl, h180⟩⟩⟩⟩⟩⟩, rfl⟩ rfl rfl ?_
   intro v198 w199 hk201 h200
   have ht208 := Kp.tr hk201 hA hB; replace hH := Hp.kp hH hk201
   replace k_p0 := Vb.tr (Dw := Dw) k_p0 ht208
   replace hr134 := Tt hr134 ht208; replace hB := Bx hB ht208; replace hA := ht208.new
   obtain ⟨x209, hx209, h150⟩ := Bs h150
   refine Zv (Dw := Dw) (e := 38) (v := v145) (l := s143) (ti := t38) (bytes := 64) (lim := 2199023255552) hH (i := 1) rfl h200 hx209 underlying25 zap rfl rfl rfl rfl (by decide) (by decide) (by decide) hB hA rfl rfl rfl ?_
   intro v210 w211 A212 hH213 ht214
   replace k_p0 := Vb.tr (Dw := Dw) k_p0 ht214
   replace hr134 := Tt hr134 ht214; replace hH := hH213
   refine As (To ?_)
   refine zo (Vy (zN rfl rfl) (Mm ?_))
   obtain rfl := Oi h150
   refine zn (fun a ha215 => ?_)
   replace hH := Hd 6 (Hf 6 (Hf 6 (Hf 6 (Hf 6 (Hf 6 (Hf 6 hH))))))
   exact ⟨x209, hlt153, h151, ⟨(v210, A212), ha215.sub ⟨rfl, rfl, rfl, rfl, rfl, rfl, rfl, Ws hlt153 hn156, trivial⟩, ⟨hH, hr134⟩⟩⟩
  refine zQ (fun a ha216 => ?_)
  exact ⟨(s143, v145, A147), ha216.sb, ⟨(h154 (zK hle152 hc157)).symm, hH, hr134⟩⟩
 rintro ⟨s133, v139, A141⟩ w136 ⟨rfl, hH142, hk137⟩ a ha138
 rw [Lp.andThen_fin] at hm
 replace k_p0 := Vb.tr (Dw := Dw) k_p0 hk137
 replace h_p00 := Sl.tr h_p00 hk137; replace h_p01 := Sl.tr h_p01 hk137; replace h_p02 := Sl.tr h_p02 hk137; replace hK := Tr.trans hK hk137; replace hB := Nat.le_trans hB hk137.ex.size; replace hA := hk137.new; replace hH := hH142
 refine C_at (n := ⟨98, [], none⟩) (fun _ _ => rfl) ?_ ha138
 refine Sr (Vy (qn k_p0.2.2 isAgg28 rfl) (Nc (Vy (Fc 0 underlying58 rfl sizeOf56 rfl rfl) (Vy (Fc 3 underlying56 rfl sizeOf54 rfl rfl) (Ld (Hc 3 3 hH rfl rfl) isAgg54 (Mm ?_))))))
 obtain ⟨x218, hx218, hm⟩ := Bs hm
 refine ZQ (α := Bool) (e := 4) (v := v_p03) (l := p0.assigner.away) hH (i := 4) rfl hx218 underlying54 sizeOf4 rfl rfl rfl ?_
 intro b219 o220 h221 hl222
 obtain ⟨x223, hx223, hm⟩ := Bs hm
 refine jI (Dw := Dw) (α := Bool) (e := 4) (v := v_p03) (l := p0.assigner.away) hH (i := 4) rfl hl222 hx223 rfl sizeOf4 rfl hB hA rfl rfl ?_
 intro w224 hH225 ht226
 replace k_p0 := Vb.tr (Dw := Dw) k_p0 ht226
 obtain ⟨h_p00, h_p01, h_p02, hK, hB, hA⟩ := U3 ht226 hK hB h_p00 h_p01 h_p02
 replace hH := hH225
 refine To ?_
 refine zh ?_
 refine qX (Dw := Dw) A141 10 [(1, 0), (1, 1), (1, 2), (1, 3), (1, 4), (1, 5), (3, 6), (1, 7), (1, 8), (3, 9)] zH (by kernel_rfl) (fun w227 hk228 => ?_)
 have ht229 := Kp.tr hk228 hA hB; replace hH := Hp.kp hH hk228
 replace k_p0 := Vb.tr (Dw := Dw) k_p0 ht229
 obtain ⟨h_p00, h_p01, h_p02, hK, hB, hA⟩ := U3 ht229 hK hB h_p00 h_p01 h_p02
 refine zI rfl (Ql (fun w' hw' => (((World.cell?_of_block (hw'.2 _ k_p0.2.1 k_p0.1)).trans k_p0.2.2))) isAgg28 (zB (zI rfl (Ql (fun w' hw' => (((World.cell?_of_block (hw'.2 _ k_p0.2.1 k_p0.1)).trans k_p0.2.2))) isAgg28 (zB (zI rfl (Qm (zB (zI rfl ?_)))))))))
 refine Qm (zB (zI rfl (Qn (zB (zI rfl (Qv (fun w' hw' => Fc 6 underlying58 rfl sizeOf34 rfl rfl) (zB ?_)))))))
 refine qw (k := 1) rfl ?_
 have h235 := Sl.oc (Hp.any (α := zb) (e := 46) (v := v29) (l := s21.2) hH (i := 2) rfl)
 refine Sc Dw 6 [v_p00, v_p01, v_p02, v_p03, Ii p0.now, v_p04, v29, .map (some m_p00)] 3 hH h235 sizeOf34 hB hA ?_
 intro w230 hH231 ht232
 replace k_p0 := Vb.tr (Dw := Dw) k_p0 ht232
 obtain ⟨h_p00, h_p01, h_p02, hK, hB, hA⟩ := U3 ht232 hK hB h_p00 h_p01 h_p02
 replace hH := hH231
 refine zeC (XA.tr (Dw := Dw) ht232) ?_
 refine zI rfl (Qn (zB (zI rfl (Qv (fun w' hw' => Fc 5 underlying58 rfl sizeOf25 rfl rfl) (zB ?_)))))
 refine qw (k := 1) rfl ?_
 have h241 := Sl.oc (Hp.any (α := za) (e := 38) (v := v139) (l := s133) hH (i := 0) rfl)
 refine Sc Dw 5 [v_p00, v_p01, v_p02, v_p03, Ii p0.now, v139, v29, .map (some m_p00)] 3 hH h241 sizeOf25 hB hA ?_
 intro w236 hH237 ht238
 replace k_p0 := Vb.tr (Dw := Dw) k_p0 ht238
 replace hK := Tt hK ht238; replace hA := ht238.new
 obtain ⟨h_p00, h_p01, h_p02⟩ := T3 ht238 h_p00 h_p01 h_p02
 replace hH := hH237
 refine zeC (XA.tr (Dw := Dw) ht238) ?_
 refine jC ?_
 show V _ _ _ _ [] _ _
 refine To ?_
 refine Sr (As (To ?_))
 obtain rfl := Oi hm
 obtain ⟨A242, ht243, h244, hH245⟩ := Hp.freeze (Dw := Dw) (α := za) (v := v139) (l := s133) hH (i := 0) rfl hA
 replace hK := Tt hK ht243; replace hA := ht243.new
 obtain ⟨h_p00, h_p01, h_p02⟩ := T3 ht243 h_p00 h_p01 h_p02
 replace hH := hH245
 obtain ⟨A247, ht248, h249, hH250⟩ := Hp.freeze (Dw := Dw) (α := zb) (v := v29) (l := s21.2) hH (i := 1) rfl hA
 replace hK := Tt hK ht248
 obtain ⟨h244, h_p00, h_p01, h_p02⟩ := T4 ht248 h244 h_p00 h_p01 h_p02
 replace hH := hH250
 replace hH := Hd 3 (Hf 3 (Hf 3 (Hf 3 hH)))
 refine Rt (Res.one results36 rfl) ?_
 exact ⟨v_p00, v_p01, v_p02, v_p03, v139, v29, A247, rfl, h_p00, h_p01, h_p02, h244, h249, hH, hK⟩
theorem zdL (w : World) {A : Nat → Prop} {B : Nat} (hB : B ≤ w.heap.size) (hA : ∀ b, w.heap.size ≤ b → A b) (r_ : ze) (b_r_ : Nat) (v_r_0 : Value) (h_r_0 : Sl A w v_r_0 r_.assigner.people) (v_r_1 : Value) (h_r_1 : Sl A w v_r_1 r_.assigner.cals) (v_r_2 : Value) (h_r_2 : Sl A w v_r_2 r_.assigner.steps) (v_r_3 : Value) (v_r_4 : Value) (h_r_4 : Sl A w v_r_4 r_.waiting) (v_r_5 : Value) (h_r_5 : Sl A w v_r_5 r_.held) (m_r_0 : Nat) (person : Int) (m : Int) {L : List Ob} (hH : Hp B A w (obC b_r_ [v_r_0, v_r_1, v_r_2, v_r_3, Ii r_.now, v_r_4, v_r_5, .map (some m_r_0)] 58 :: o_4 v_r_3 r_.assigner.away :: obRM (κ := Int) (α := za) m_r_0 r_.work :: L)) {r : ((List zb) × Int × ze)} (hm : Qd r_ person m = some r) : Ret prog 9 #[Pt b_r_, Ii person, Ii m] w fun v w' => ∃ s0, ∃ u1_0, ∃ u1_1, ∃ u1_2, ∃ u1_3, ∃ u1_4, ∃ u1_5, ∃ A1 : Nat → Prop, v = .tuple #[s0, Ii r.2.1] ∧ Sl A1 w' u1_0 r.2.2.assigner.people ∧ Sl A1 w' u1_1 r.2.2.assigner.cals ∧ Sl A1 w' u1_2 r.2.2.assigner.steps ∧ Sl A1 w' u1_4 r.2.2.waiting ∧ Sl A1 w' u1_5 r.2.2.held ∧ Hp B A1 w' (o_46 s0 r.1 :: obC b_r_ [u1_0, u1_1, u1_2, u1_3, Ii r.2.2.now, u1_4, u1_5, .map (some m_r_0)] 58 :: o_4 u1_3 r.2.2.assigner.away :: obRM (κ := Int) (α := za) m_r_0 r.2.2.work :: L) ∧ Tr Dw B A w A1 w' := by
 unfold Qd at hm
 refine enter func9 rfl ntmps9 rfl ?_
 have hK : Tr Dw B A w A w := Tr.refl (Dw := Dw) hA
 refine Sr ?_
 refine Zy rfl rfl ?_
 intro b14 w15 h16
 have hk17 := h16.kp (Dw := Dw)
 have h18 : Vb A w15 b14 (Pt b_r_) := h16.vb hA rfl
 have ht19 := Kp.tr hk17 hA hB; replace hH := Hp.kp hH hk17
 obtain ⟨h_r_0, h_r_1, h_r_2, h_r_4, h_r_5, hK, hB, hA⟩ := U5 ht19 hK hB h_r_0 h_r_1 h_r_2 h_r_4 h_r_5
 refine Zy rfl rfl ?_
 intro b20 w21 h22
 have hk24 := h22.kp (Dw := Dw)
 have h23 : El (α := Int) A w21 b20 0 person := h22.el hA rfl
 have ht25 := Kp.tr hk24 hA hB; replace hH := Hp.kp hH hk24
 replace h18 := Vb.tr (Dw := Dw) h18 ht25
 obtain ⟨h_r_0, h_r_1, h_r_2, h_r_4, h_r_5, hK, hB, hA⟩ := U5 ht25 hK hB h_r_0 h_r_1 h_r_2 h_r_4 h_r_5
 refine As (As (To ?_))
 refine Sr (Vy (qn h18.2.2 isAgg28 rfl) (Mm (Vy (qk rfl rfl) ?_)))
 replace hH : Hp B A w21 (obT :: obC b_r_ [v_r_0, v_r_1, v_r_2, v_r_3, Ii r_.now, v_r_4, v_r_5, .map (some m_r_0)] 58 :: o_4 v_r_3 r_.assigner.away :: obRM (κ := Int) (α := za) m_r_0 r_.work :: L) := Hp.addT hH
 replace hH := Hf 3 (Hf 3 (Hf 3 hH))
 obtain ⟨x26, hx26, hm⟩ := Bs hm
 refine Vc call27 (QR (Dw := Dw) w21 hB hA r_ b_r_ v_r_0 h_r_0 v_r_1 h_r_1 v_r_2 h_r_2 v_r_3 v_r_4 h_r_4 v_r_5 h_r_5 m_r_0 m (fun R => qI R person) 36 #[] #[Pt b14, Pt b20] obT call36 (fun w1 A1 L1 R u0 gu0 u1 gu1 u2 gu2 u3 u4 gu4 u5 gu5 r hB1 hA1 ht hH1 hm1 => zcH (Dw := Dw) w1 hB1 hA1 R b_r_ b14 u0 gu0 u1 gu1 u2 gu2 u3 u4 gu4 u5 gu5 m_r_0 (Vb.tr (Dw := Dw) h18 ht) person b20 (El.tr h23 ht) hH1 hm1) hH hx26) ?_
 rintro _ w42 ⟨v27, v29, v31, v33, v35, v37, v39, A43, rfl, h30, h32, h34, h38, h40, hH44, ht45⟩
 replace h18 := Vb.tr (Dw := Dw) h18 ht45
 replace hK := Tt hK ht45; replace hH := hH44
 refine Vy (zD rfl rfl) (Vy (zD rfl rfl) (As (As (To ?_))))
 obtain rfl := Oi hm
 replace hH := Hd 4 (Hf 3 (Hf 3 (Hf 3 (Hf 3 hH))))
 refine Rt (Res.two results9 rfl rfl) ?_
 exact ⟨v27, v29, v31, v33, v35, v37, v39, A43, rfl, h30, h32, h34, h38, h40, hH, hK⟩
theorem zcj (w : World) {A : Nat → Prop} {B : Nat} (hB : B ≤ w.heap.size) (hA : ∀ b, w.heap.size ≤ b → A b) (p0 : ze) (b_p0 c_p0 : Nat) (v_p00 : Value) (h_p00 : Sl A w v_p00 p0.assigner.people) (v_p01 : Value) (h_p01 : Sl A w v_p01 p0.assigner.cals) (v_p02 : Value) (h_p02 : Sl A w v_p02 p0.assigner.steps) (v_p03 : Value) (v_p04 : Value) (h_p04 : Sl A w v_p04 p0.waiting) (v_p05 : Value) (h_p05 : Sl A w v_p05 p0.held) (m_p00 : Nat) (k_p0 : Vb A w c_p0 (Pt b_p0)) (p1 : Int) (b_p1 : Nat) (h_p1 : El A w b_p1 0 p1) {L : List Ob} (hH : Hp B A w (obC b_p0 [v_p00, v_p01, v_p02, v_p03, Ii p0.now, v_p04, v_p05, .map (some m_p00)] 58 :: o_4 v_p03 p0.assigner.away :: obRM (κ := Int) (α := za) m_p00 p0.work :: L)) {r : (Int × ze)} (hm : qx p0 p1 = some r) : Ret prog 38 #[Pt c_p0, Pt b_p1] w fun v w' => ∃ u1_0, ∃ u1_1, ∃ u1_2, ∃ u1_3, ∃ u1_4, ∃ u1_5, ∃ A1 : Nat → Prop, v = Ii r.1 ∧ Sl A1 w' u1_0 r.2.assigner.people ∧ Sl A1 w' u1_1 r.2.assigner.cals ∧ Sl A1 w' u1_2 r.2.assigner.steps ∧ Sl A1 w' u1_4 r.2.waiting ∧ Sl A1 w' u1_5 r.2.held ∧ Hp B A1 w' (obC b_p0 [u1_0, u1_1, u1_2, u1_3, Ii r.2.now, u1_4, u1_5, .map (some m_p00)] 58 :: o_4 u1_3 r.2.assigner.away :: obRM (κ := Int) (α := za) m_p00 r.2.work :: L) ∧ Tr Dw B A w A1 w' := by
 unfold qx at hm
 refine enter func38 rfl ntmps38 rfl ?_
 have hK : Tr Dw B A w A w := Tr.refl (Dw := Dw) hA
 refine Sr (As (To ?_))
 refine Sr (Vy (qn k_p0.2.2 isAgg28 rfl) (Li h_p1 isAgg3 ?_))
 replace hH := Hf 2 (Hf 2 (Hf 2 hH))
 obtain ⟨x14, hx14, hm⟩ := Bs hm
 refine Vc call37 (zaA (Dw := Dw) w hB hA p0 b_p0 v_p00 h_p00 v_p01 h_p01 v_p02 h_p02 v_p03 v_p04 h_p04 v_p05 h_p05 m_p00 p1 true hH hx14) ?_
 rintro _ w15 ⟨A16, rfl, hH17, ht18⟩
 replace k_p0 := Vb.tr (Dw := Dw) k_p0 ht18
 obtain ⟨h_p00, h_p01, h_p02, h_p04, h_p05, hK, hB, hA⟩ := U5 ht18 hK hB h_p00 h_p01 h_p02 h_p04 h_p05
 replace hH := hH17
 refine Mm (Vy (zD rfl rfl) (Vy (zD rfl rfl) (As (As (To ?_)))))
 refine zh (Sr (Mm (Vy (ql rfl rfl) (To ?_))))
 obtain ⟨s20, ho19, hm⟩ := Bs hm
 refine zu (ι := (Value × Value × Value × Value × Value × Value × (Nat → Prop))) (fun ⟨v22, v24, v26, v28, v30, v32, A38⟩ => [(4, Ii x14.2)]) (fun ⟨v22, v24, v26, v28, v30, v32, A38⟩ => fun w' => Sl A38 w' v22 s20.assigner.people ∧ Sl A38 w' v24 s20.assigner.cals ∧ Sl A38 w' v26 s20.assigner.steps ∧ Sl A38 w' v30 s20.waiting ∧ Sl A38 w' v32 s20.held ∧ Hp B A38 w' (obC b_p0 [v22, v24, v26, v28, Ii s20.now, v30, v32, .map (some m_p00)] 58 :: o_4 v28 s20.assigner.away :: obRM (κ := Int) (α := za) m_p00 s20.work :: L) ∧ Tr Dw B A16 w15 A38 w') ?_ ?_
 ·have hr21 : Tr Dw B A16 w15 A16 w15 := Tr.refl (Dw := Dw) hA
  refine Cc (fun hc40 => ?_) fun hc40 => ?_
  ·rw [if_pos hc40] at ho19
   refine zo (Vy (qn k_p0.2.2 isAgg28 rfl) (Nc (Vy (Fc 0 underlying58 rfl sizeOf56 rfl rfl) (Vy (Fc 3 underlying56 rfl sizeOf54 rfl rfl) (Ld (Hc 3 0 hH rfl rfl) isAgg54 (Mm ?_))))))
   obtain ⟨x41, hx41, ho19⟩ := Bs ho19
   refine ZQ (α := Bool) (e := 4) (v := v_p03) (l := p0.assigner.away) hH (i := 1) rfl hx41 underlying54 sizeOf4 rfl rfl rfl ?_
   intro b42 o43 h44 hl45
   obtain ⟨x46, hx46, ho19⟩ := Bs ho19
   refine jI (Dw := Dw) (α := Bool) (e := 4) (v := v_p03) (l := p0.assigner.away) hH (i := 1) rfl hl45 hx46 rfl sizeOf4 rfl hB hA rfl rfl ?_
   intro w47 hH48 ht49
   replace k_p0 := Vb.tr (Dw := Dw) k_p0 ht49
   replace hr21 := Tt hr21 ht49
   obtain ⟨h_p00, h_p01, h_p02, h_p04, h_p05⟩ := T5 ht49 h_p00 h_p01 h_p02 h_p04 h_p05
   replace hH := hH48
   obtain rfl := Oi ho19
   refine zn (fun a ha50 => ?_)
   exact ⟨(v_p00, v_p01, v_p02, v_p03, v_p04, v_p05, A16), ha50.sb, ⟨h_p00, h_p01, h_p02, h_p04, h_p05, hH, hr21⟩⟩
  rw [if_neg (nt hc40)] at ho19
  obtain rfl := Oi ho19
  refine qL (fun a ha51 => ?_)
  exact ⟨(v_p00, v_p01, v_p02, v_p03, v_p04, v_p05, A16), ha51.sb, ⟨h_p00, h_p01, h_p02, h_p04, h_p05, hH, hr21⟩⟩
 rintro ⟨v22, v24, v26, v28, v30, v32, A38⟩ w35 ⟨h23, h25, h27, h31, h33, hH39, hk36⟩ a ha37
 replace hK := Tr.trans hK hk36; replace hA := hk36.new; replace hH := hH39
 refine C_at (n := ⟨21, [], none⟩) (fun _ _ => rfl) ?_ ha37
 refine Sr (Mm (As (To ?_)))
 obtain rfl := Oi hm
 refine Rt (Res.one results38 rfl) ?_
 exact ⟨v22, v24, v26, v28, v30, v32, A38, rfl, h23, h25, h27, h31, h33, hH, hK⟩
theorem zcR (w : World) {A : Nat → Prop} {B : Nat} (hB : B ≤ w.heap.size) (hA : ∀ b, w.heap.size ≤ b → A b) (r_ : ze) (b_r_ : Nat) (v_r_0 : Value) (h_r_0 : Sl A w v_r_0 r_.assigner.people) (v_r_1 : Value) (h_r_1 : Sl A w v_r_1 r_.assigner.cals) (v_r_2 : Value) (h_r_2 : Sl A w v_r_2 r_.assigner.steps) (v_r_3 : Value) (v_r_4 : Value) (h_r_4 : Sl A w v_r_4 r_.waiting) (v_r_5 : Value) (h_r_5 : Sl A w v_r_5 r_.held) (m_r_0 : Nat) (person : Int) (m : Int) {L : List Ob} (hH : Hp B A w (obC b_r_ [v_r_0, v_r_1, v_r_2, v_r_3, Ii r_.now, v_r_4, v_r_5, .map (some m_r_0)] 58 :: o_4 v_r_3 r_.assigner.away :: obRM (κ := Int) (α := za) m_r_0 r_.work :: L)) {r : ((List zb) × Int × ze)} (hm : qV r_ person m = some r) : Ret prog 10 #[Pt b_r_, Ii person, Ii m] w fun v w' => ∃ s0, ∃ u1_0, ∃ u1_1, ∃ u1_2, ∃ u1_3, ∃ u1_4, ∃ u1_5, ∃ A1 : Nat → Prop, v = .tuple #[s0, Ii r.2.1] ∧ Sl A1 w' u1_0 r.2.2.assigner.people ∧ Sl A1 w' u1_1 r.2.2.assigner.cals ∧ Sl A1 w' u1_2 r.2.2.assigner.steps ∧ Sl A1 w' u1_4 r.2.2.waiting ∧ Sl A1 w' u1_5 r.2.2.held ∧ Hp B A1 w' (o_46 s0 r.1 :: obC b_r_ [u1_0, u1_1, u1_2, u1_3, Ii r.2.2.now, u1_4, u1_5, .map (some m_r_0)] 58 :: o_4 u1_3 r.2.2.assigner.away :: obRM (κ := Int) (α := za) m_r_0 r.2.2.work :: L) ∧ Tr Dw B A w A1 w' := by
 unfold qV at hm
 refine enter func10 rfl ntmps10 rfl ?_
 have hK : Tr Dw B A w A w := Tr.refl (Dw := Dw) hA
 refine Sr ?_
 refine Zy rfl rfl ?_
 intro b14 w15 h16
 have hk17 := h16.kp (Dw := Dw)
 have h18 : Vb A w15 b14 (Pt b_r_) := h16.vb hA rfl
 have ht19 := Kp.tr hk17 hA hB; replace hH := Hp.kp hH hk17
 obtain ⟨h_r_0, h_r_1, h_r_2, h_r_4, h_r_5, hK, hB, hA⟩ := U5 ht19 hK hB h_r_0 h_r_1 h_r_2 h_r_4 h_r_5
 refine Zy rfl rfl ?_
 intro b20 w21 h22
 have hk24 := h22.kp (Dw := Dw)
 have h23 : El (α := Int) A w21 b20 0 person := h22.el hA rfl
 have ht25 := Kp.tr hk24 hA hB; replace hH := Hp.kp hH hk24
 replace h18 := Vb.tr (Dw := Dw) h18 ht25
 obtain ⟨h_r_0, h_r_1, h_r_2, h_r_4, h_r_5, hK, hB, hA⟩ := U5 ht25 hK hB h_r_0 h_r_1 h_r_2 h_r_4 h_r_5
 refine As (As (To ?_))
 refine Sr (Vy (qn h18.2.2 isAgg28 rfl) (Mm (Vy (qk rfl rfl) ?_)))
 replace hH : Hp B A w21 (obT :: obC b_r_ [v_r_0, v_r_1, v_r_2, v_r_3, Ii r_.now, v_r_4, v_r_5, .map (some m_r_0)] 58 :: o_4 v_r_3 r_.assigner.away :: obRM (κ := Int) (α := za) m_r_0 r_.work :: L) := Hp.addT hH
 replace hH := Hf 3 (Hf 3 (Hf 3 hH))
 obtain ⟨x26, hx26, hm⟩ := Bs hm
 refine Vc call27 (QR (Dw := Dw) w21 hB hA r_ b_r_ v_r_0 h_r_0 v_r_1 h_r_1 v_r_2 h_r_2 v_r_3 v_r_4 h_r_4 v_r_5 h_r_5 m_r_0 m (fun R => qx R person) 38 #[] #[Pt b14, Pt b20] obT call38 (fun w1 A1 L1 R u0 gu0 u1 gu1 u2 gu2 u3 u4 gu4 u5 gu5 r hB1 hA1 ht hH1 hm1 => zcj (Dw := Dw) w1 hB1 hA1 R b_r_ b14 u0 gu0 u1 gu1 u2 gu2 u3 u4 gu4 u5 gu5 m_r_0 (Vb.tr (Dw := Dw) h18 ht) person b20 (El.tr h23 ht) hH1 hm1) hH hx26) ?_
 rintro _ w42 ⟨v27, v29, v31, v33, v35, v37, v39, A43, rfl, h30, h32, h34, h38, h40, hH44, ht45⟩
 replace h18 := Vb.tr (Dw := Dw) h18 ht45
 replace hK := Tt hK ht45; replace hH := hH44
 refine Vy (zD rfl rfl) (Vy (zD rfl rfl) (As (As (To ?_))))
 obtain rfl := Oi hm
 replace hH := Hd 4 (Hf 3 (Hf 3 (Hf 3 (Hf 3 hH))))
 refine Rt (Res.two results10 rfl rfl) ?_
 exact ⟨v27, v29, v31, v33, v35, v37, v39, A43, rfl, h30, h32, h34, h38, h40, hH, hK⟩
theorem zcY (w : World)  : Ret prog 39 #[] w fun v w' => v = Ii (qU ) ∧ w = w' := by
 generalize hm : qU  = r
 unfold qU at hm
 refine enter func39 rfl ntmps39 rfl ?_
 refine Sr (As (To ?_))
 refine Sr (As (To ?_))
 obtain rfl := hm
 refine Rt (Res.one results39 rfl) ?_
 exact ⟨rfl, rfl⟩
theorem zdW (w : World) {A : Nat → Prop} {B : Nat} (hB : B ≤ w.heap.size) (hA : ∀ b, w.heap.size ≤ b → A b) (r_ : ze) (b_r_ : Nat) (v_r_0 : Value) (h_r_0 : Sl A w v_r_0 r_.assigner.people) (v_r_1 : Value) (h_r_1 : Sl A w v_r_1 r_.assigner.cals) (v_r_2 : Value) (h_r_2 : Sl A w v_r_2 r_.assigner.steps) (v_r_3 : Value) (v_r_4 : Value) (h_r_4 : Sl A w v_r_4 r_.waiting) (v_r_5 : Value) (h_r_5 : Sl A w v_r_5 r_.held) (m_r_0 : Nat) (m : Int) {L : List Ob} (hH : Hp B A w (obC b_r_ [v_r_0, v_r_1, v_r_2, v_r_3, Ii r_.now, v_r_4, v_r_5, .map (some m_r_0)] 58 :: o_4 v_r_3 r_.assigner.away :: obRM (κ := Int) (α := za) m_r_0 r_.work :: L)) {r : ((List zb) × Int × ze)} (hm : QK r_ m = some r) : Ret prog 11 #[Pt b_r_, Ii m] w fun v w' => ∃ s0, ∃ u1_0, ∃ u1_1, ∃ u1_2, ∃ u1_3, ∃ u1_4, ∃ u1_5, ∃ A1 : Nat → Prop, v = .tuple #[s0, Ii r.2.1] ∧ Sl A1 w' u1_0 r.2.2.assigner.people ∧ Sl A1 w' u1_1 r.2.2.assigner.cals ∧ Sl A1 w' u1_2 r.2.2.assigner.steps ∧ Sl A1 w' u1_4 r.2.2.waiting ∧ Sl A1 w' u1_5 r.2.2.held ∧ Hp B A1 w' (o_46 s0 r.1 :: obC b_r_ [u1_0, u1_1, u1_2, u1_3, Ii r.2.2.now, u1_4, u1_5, .map (some m_r_0)] 58 :: o_4 u1_3 r.2.2.assigner.away :: obRM (κ := Int) (α := za) m_r_0 r.2.2.work :: L) ∧ Tr Dw B A w A1 w' := by
 unfold QK at hm
 refine enter func11 rfl ntmps11 rfl ?_
 have hK : Tr Dw B A w A w := Tr.refl (Dw := Dw) hA
 refine Sr (As (As (To ?_)))
 refine Sr (Mm (Mm ?_))
 replace hH : Hp B A w (obT :: obC b_r_ [v_r_0, v_r_1, v_r_2, v_r_3, Ii r_.now, v_r_4, v_r_5, .map (some m_r_0)] 58 :: o_4 v_r_3 r_.assigner.away :: obRM (κ := Int) (α := za) m_r_0 r_.work :: L) := Hp.addT hH
 replace hH := Hf 3 (Hf 3 (Hf 3 hH))
 obtain ⟨x14, hx14, hm⟩ := Bs hm
 refine zdZ call27 rfl rfl rfl rfl (QR (Dw := Dw) w hB hA r_ b_r_ v_r_0 h_r_0 v_r_1 h_r_1 v_r_2 h_r_2 v_r_3 v_r_4 h_r_4 v_r_5 h_r_5 m_r_0 m (fun R => some (qU, R)) 39 #[] #[] obT call39 (fun w1 A1 L1 R u0 gu0 u1 gu1 u2 gu2 u3 u4 gu4 u5 gu5 r hB1 hA1 ht hH1 hm1 => (zcY w1).mono fun _ w2 h => by cases hm1; exact ⟨u0, u1, u2, u3, u4, u5, A1, h.1, h.2 ▸ gu0, h.2 ▸ gu1, h.2 ▸ gu2, h.2 ▸ gu4, h.2 ▸ gu5, h.2 ▸ hH1, h.2 ▸ Tr.refl (Dw := Dw) hA1⟩) hH hx14) ?_
 rintro _ w30 ⟨v15, v17, v19, v21, v23, v25, v27, A31, rfl, h18, h20, h22, h26, h28, hH32, ht33⟩
 replace hK := Tt hK ht33; replace hH := hH32
 refine Vy (zD rfl rfl) (Vy (zD rfl rfl) (As (As (To ?_))))
 obtain rfl := Oi hm
 replace hH := Hd 4 (Hf 3 (Hf 3 (Hf 3 (Hf 3 hH))))
 refine Rt (Res.two results11 rfl rfl) ?_
 exact ⟨v15, v17, v19, v21, v23, v25, v27, A31, rfl, h18, h20, h22, h26, h28, hH, hK⟩
theorem zbs (w : World) {A : Nat → Prop} {B : Nat} (hB : B ≤ w.heap.size) (hA : ∀ b, w.heap.size ≤ b → A b) (r_ : ze) (b_r_ : Nat) (v_r_0 : Value) (h_r_0 : Sl A w v_r_0 r_.assigner.people) (v_r_1 : Value) (h_r_1 : Sl A w v_r_1 r_.assigner.cals) (v_r_2 : Value) (h_r_2 : Sl A w v_r_2 r_.assigner.steps) (v_r_3 : Value) (v_r_4 : Value) (h_r_4 : Sl A w v_r_4 r_.waiting) (v_r_5 : Value) (h_r_5 : Sl A w v_r_5 r_.held) (m_r_0 : Nat) {L : List Ob} (hH : Hp B A w (obC b_r_ [v_r_0, v_r_1, v_r_2, v_r_3, Ii r_.now, v_r_4, v_r_5, .map (some m_r_0)] 58 :: o_4 v_r_3 r_.assigner.away :: obRM (κ := Int) (α := za) m_r_0 r_.work :: L)) {r : Int} (hm : qZ r_ = some r) : Ret prog 12 #[Pt b_r_] w fun v w' => ∃ A1 : Nat → Prop, v = Ii r ∧ Hp B A1 w' (obC b_r_ [v_r_0, v_r_1, v_r_2, v_r_3, Ii r_.now, v_r_4, v_r_5, .map (some m_r_0)] 58 :: o_4 v_r_3 r_.assigner.away :: obRM (κ := Int) (α := za) m_r_0 r_.work :: L) ∧ Tr Dw B A w A1 w' := by
 unfold qZ at hm
 refine enter func12 rfl ntmps12 rfl ?_
 have hK : Tr Dw B A w A w := Tr.refl (Dw := Dw) hA
 refine Sr (As (To ?_))
 refine Sr (Mm (Nc (Vy (Fc 4 underlying58 rfl sizeOf3 rfl rfl) (Ld (Hc 4 0 hH rfl rfl) isAgg3 (As (To ?_))))))
 obtain rfl := Oi hm
 refine Rt (Res.one results12 rfl) ?_
 exact ⟨A, rfl, hH, hK⟩
theorem QW (w : World) {A : Nat → Prop} (hA : ∀ b, w.heap.size ≤ b → A b) (s1 : (List zb)) (v_s1 : Value) (h_s1 : Sl A w v_s1 s1) (s2 : (List zb)) (v_s2 : Value) (h_s2 : Sl A w v_s2 s2) {r : Bool} (hm : zZ s1 s2 = some r) : Ret prog 13 #[v_s1, v_s2] w fun v w' => v = .bool r ∧ Kp Dw w w' := by
 unfold zZ at hm
 refine enter func13 rfl ntmps13 rfl ?_
 have hA0 := hA
 obtain ⟨hB, hK, hH⟩ := St (Dw := Dw) hA
 refine Sr (As (To ?_))
 refine zh (Sr (Mm (Vy (zA h_s1 rfl underlying34 rfl) (Mm (Vy (zA h_s2 rfl underlying34 rfl) (Vy (ZW rfl rfl) (To ?_)))))))
 refine Cc (fun hc5 => ?_) fun hc5 => ?_
 ·rw [if_pos hc5] at hm
  refine Sr (As (To ?_))
  obtain rfl := Oi hm
  refine Rt (Res.one results13 rfl) ?_
  exact ⟨rfl, hK.kp⟩
 rw [if_neg (nt hc5)] at hm
 refine Sk ?_
 refine zh (Sr (Mm (Vy (zA h_s1 rfl underlying34 rfl) (Mm (To ?_)))))
 have hn27 := Sl.le h_s1
 obtain ⟨o6, ho6, hm⟩ := Bs hm
 refine zu (ι := (Unit × (Nat → Prop))) (fun ⟨s7, A13⟩ => []) (fun ⟨s7, A13⟩ => fun w' => o6 = .fin s7 ∧ Hp w.heap.size A13 w' ([]) ∧ Tr Dw w.heap.size A w A13 w') ?_ ?_
 ·refine zl ?_
  refine zS ho6 (fun k9 _ a w' => ∃ i : (Nat → Prop), Has ⟨26, [], none⟩ a ([(0, v_s1), (1, v_s2), (12, Ii (s1.length : Int)), (13, Ii (k9 : Int))]) ∧ Hp w.heap.size i w' ([]) ∧ Tr Dw w.heap.size A w i w') (fun a ha => ⟨A, ha.sb, ⟨hH, Tr.refl (Dw := Dw) hA⟩⟩) ?_
  rintro K k9 _ a w17 ⟨A18, ha45, hH19, hr8⟩ hle23 K26 h25
  refine C_of ?_ ha45
  obtain ⟨h_s1, h_s2, hK, hB, hA⟩ := U2 hr8 hK hB h_s1 h_s2
  replace hH := hH19
  refine Sr (Vy (zR rfl rfl) (To ?_))
  refine zh ?_
  refine Cc (fun hc28 => ?_) fun hc28 => ?_
  ·have hlt24 := zL hc28
   obtain ⟨x20, h21, h22⟩ := K26 hlt24
   refine Sk ?_
   refine zh (zl (Sr (Mm (As (To ?_)))))
   refine zh ?_
   refine ZR (Dw := Dw) zH (by kernel_rfl) ?_
   refine Qm (Qm ?_)
   obtain ⟨x29, hx29, h21⟩ := Bs h21
   refine Zl h_s1 hx29 underlying34 sizeOf46 rfl rfl rfl ?_
   intro b30 o31 h32
   obtain ⟨h33, _⟩ := qd h32
   refine Qv (fun w' hw' => zx (At.kp h33 hw' h32.2.1) isAgg46 sizeOf46 rfl) (Qm (Qm ?_))
   obtain ⟨x34, hx34, h21⟩ := Bs h21
   refine Zl h_s2 hx34 underlying34 sizeOf46 rfl rfl rfl ?_
   intro b35 o36 h37
   obtain ⟨h38, _⟩ := qd h37
   refine Qv (fun w' hw' => zx (At.kp h38 hw' h37.2.1) isAgg46 sizeOf46 rfl) (Qv (fun w' hw' => zlQ (fun w => zfd x29.ticket x29.person x29.weight x29.since x34.ticket x34.person x34.weight x34.since w) ziZ rfl rfl) ?_)
   refine jR (fun _ _ => rfl) (fun w39 hk40 => ?_)
   have ht41 := Kp.tr hk40 hA hB; replace hH := Hp.kp hH hk40; replace hK := Tt hK ht41; replace hr8 := Tt hr8 ht41
   refine Cc (fun hc42 => ?_) fun hc42 => ?_
   ·rw [if_pos hc42] at h21
    refine Sr (As (To ?_))
    obtain rfl := Oi h21
    obtain rfl := (h22 : Lp.rt _ = _)
    rw [Lp.andThen_rt] at hm
    obtain rfl := Oi hm
    refine Rt (Res.one results13 rfl) ?_
    exact ⟨rfl, hK.kp⟩
   rw [if_neg (nt hc42)] at h21
   refine Sk ?_
   refine zo (Vy (zN rfl rfl) (Mm ?_))
   obtain rfl := Oi h21
   refine zn (fun a ha43 => ?_)
   exact ⟨(), hlt24, h22, ⟨A18, ha43.sub ⟨rfl, rfl, rfl, Ws hlt24 hn27, trivial⟩, ⟨hH, hr8⟩⟩⟩
  refine zQ (fun a ha44 => ?_)
  exact ⟨((), A18), ha44.sub trivial, ⟨(h25 (zK hle23 hc28)).symm, hH, hr8⟩⟩
 rintro ⟨s7, A13⟩ w10 ⟨rfl, hH14, hk11⟩ a ha12
 rw [Lp.andThen_fin] at hm
 replace hK := Tr.trans hK hk11; replace hA := hk11.new; replace hH := hH14
 refine C_at (n := ⟨26, [], none⟩) (fun _ _ => rfl) ?_ ha12
 refine Sr (As (To ?_))
 obtain rfl := Oi hm
 refine Rt (Res.one results13 rfl) ?_
 exact ⟨rfl, hK.kp⟩
theorem zcQ (w : World) (m : Int) : Ret prog 69 #[Ii m] w fun v w' => v = Ii (ZF m) ∧ w = w' := by
 generalize hm : ZF m = r
 unfold ZF at hm
 refine enter func69 rfl ntmps69 rfl ?_
 refine Sr (As (To ?_))
 refine zh (Sr (Mm ?_))
 refine Vc call52 (Zq w m 0 3000000) ?_
 rintro _ _ ⟨rfl, rfl⟩
 refine Vy (Zs rfl) (To ?_)
 refine Cc (fun hc1 => ?_) fun hc1 => ?_
 ·rw [if_pos hc1] at hm
  refine Sr (As (To ?_))
  obtain rfl := hm
  refine Rt (Res.one results69 rfl) ?_
  exact ⟨rfl, rfl⟩
 rw [if_neg (nt hc1)] at hm
 refine Sk ?_
 refine Sr (As (To ?_))
 obtain rfl := hm
 refine Rt (Res.one results69 rfl) ?_
 exact ⟨rfl, rfl⟩
end Go.Proofs.YtiblagcmjobknaaGreatDoor.W
