import Derived.Test.YtiblagcmjobknaaGreatDoorTopTakenW0
namespace Go.Proofs.YtiblagcmjobknaaGreatDoor.W
open Go Go.RowKit Go.Pu Go.Gw Go.Proofs Go.Proofs.YtiblagcmjobknaaGreatDoor.M
set_option linter.unusedVariables false
set_option linter.unusedSimpArgs false
variable {Dw : Prop}
set_option maxHeartbeats 4000000
set_option maxRecDepth 4000
open Tryz
theorem zev (w : World) {A : Nat → Prop} (hA : ∀ b, w.heap.size ≤ b → A b) (x : zb) (y : zb) {r : Int} (hm : zav x y = some r) : Ret prog 54 #[.agg #[Ii x.ticket, Ii x.person, Ii x.weight, Ii x.since], .agg #[Ii y.ticket, Ii y.person, Ii y.weight, Ii y.since]] w fun v w' => v = Ii r ∧ Kp Dw w w' := by
 unfold zav at hm
 refine enter func54 rfl ntmps54 rfl ?_
 have hA0 := hA
 obtain ⟨hB, hK, hH⟩ := St (Dw := Dw) hA
 refine Sr ?_
 refine Zy rfl rfl ?_
 intro b1 w2 h3
 have hk5 := h3.kp (Dw := Dw)
 have h4 : El (α := zb) A w2 b1 0 x := h3.el hA ⟨[Ii x.ticket], _, rfl, rfl, ⟨[Ii x.person], _, rfl, rfl, ⟨[Ii x.weight], _, rfl, rfl, rfl⟩⟩⟩
 have ht6 := Kp.tr hk5 hA hB
 obtain ⟨hK, hB, hA⟩ := U0 ht6 hK hB
 refine Zy rfl rfl ?_
 intro b7 w9 h10
 have hk12 := h10.kp (Dw := Dw)
 have h11 : El (α := zb) A w9 b7 0 y := h10.el hA ⟨[Ii y.ticket], _, rfl, rfl, ⟨[Ii y.person], _, rfl, rfl, ⟨[Ii y.weight], _, rfl, rfl, rfl⟩⟩⟩
 have ht13 := Kp.tr hk12 hA hB; replace h4 := El.tr h4 ht13; replace hK := Tt hK ht13
 refine As (To ?_)
 refine Sr ?_
 have h14 := qv h4
 refine Fa underlying46 rfl sizeOf3 (Li h14 isAgg3 ?_)
 have h15 := qv h11
 refine Fa underlying46 rfl sizeOf3 (Li h15 isAgg3 ?_)
 refine Vc call55 (ZO w9 x.ticket y.ticket) ?_
 rintro _ _ ⟨rfl, rfl⟩
 refine As (To ?_)
 obtain rfl := Oi hm
 refine Rt (Res.one results54 rfl) ?_
 exact ⟨rfl, hK.kp⟩
def zhc : Go.Shelf.Ren := ⟨fun | 6 => 53 | 14 => 82 | 15 => 83 | 20 => 101 | 21 => 102 | 22 => 103 | 23 => 104 | 24 => 105 | 25 => 106 | 26 => 107 | 27 => 108 | 28 => 109 | 29 => 110 | 46 => 132 | 47 => 133 | 48 => 134 | 49 => 135 | 50 => 136 | 57 => 158 | n => n, fun | 0 => 0 | 1 => 1 | 2 => 2 | 3 => 3 | 4 => 4 | 5 => 5 | 6 => 6 | 7 => 7 | 8 => 8 | 9 => 9 | 10 => 10 | 11 => 11 | 12 => 12 | 13 => 13 | 14 => 14 | 15 => 15 | 16 => 16 | 17 => 17 | 18 => 18 | 19 => 19 | 20 => 20 | 21 => 21 | 22 => 34 | 23 => 112 | 24 => 46 | 25 => 114 | 26 => 85 | 27 => 26 | 28 => 199 | 29 => 113 | 37 => 142 | 38 => 143 | 39 => 144 | 40 => 121 | 41 => 223 | 42 => 145 | 44 => 166 | 45 => 167 | 46 => 168 | 47 => 169 | 48 => 170 | 49 => 171 | 50 => 138 | 51 => 172 | 52 => 173 | 53 => 174 | 54 => 175 | 55 => 176 | 56 => 236 | 57 => 237 | 58 => 238 | 59 => 239 | 60 => 240 | 66 => 194 | 67 => 195 | 68 => 196 | 69 => 197 | 70 => 136 | 71 => 198 | 72 => 253 | 73 => 254 | 76 => 220 | 77 => 221 | 78 => 222 | 79 => 255 | 81 => 258 | 82 => 259 | 83 => 260 | 84 => 261 | 85 => 262 | 86 => 263 | 87 => 43 | 88 => 264 | 89 => 265 | 90 => 266 | 91 => 246 | 92 => 267 | 93 => 268 | 94 => 269 | 95 => 270 | 96 => 271 | n => n, fun n => n⟩
theorem zdR : Go.Proofs.SlLaysF0.n6 Tryz.prog zhc := {
  mixed := by kernel_rfl,
  f6 := ⟨ "slices.SortFunc[[]porterslodge/route.Held,porterslodge/route.Held]", by kernel_rfl, Tryz.func53.trans (congrArg some (by kernel_rfl))⟩,
  f14 := ⟨ "slices.pdqsortCmpFunc[porterslodge/route.Held]", by kernel_rfl, Tryz.func82.trans (congrArg some (by kernel_rfl))⟩,
  f15 := Tryz.func83.trans (congrArg some (by kernel_rfl)),
  f20 := ⟨ "slices.insertionSortCmpFunc[porterslodge/route.Held]", by kernel_rfl, Tryz.func101.trans (congrArg some (by kernel_rfl))⟩,
  f21 := ⟨ "slices.heapSortCmpFunc[porterslodge/route.Held]", by kernel_rfl, Tryz.func102.trans (congrArg some (by kernel_rfl))⟩,
  f22 := ⟨ "slices.breakPatternsCmpFunc[porterslodge/route.Held]", by kernel_rfl, Tryz.func103.trans (congrArg some (by kernel_rfl))⟩,
  f23 := ⟨ "slices.choosePivotCmpFunc[porterslodge/route.Held]", by kernel_rfl, Tryz.func104.trans (congrArg some (by kernel_rfl))⟩,
  f24 := ⟨ "slices.reverseRangeCmpFunc[porterslodge/route.Held]", by kernel_rfl, Tryz.func105.trans (congrArg some (by kernel_rfl))⟩,
  f25 := ⟨ "slices.partialInsertionSortCmpFunc[porterslodge/route.Held]", by kernel_rfl, Tryz.func106.trans (congrArg some (by kernel_rfl))⟩,
  f26 := ⟨ "slices.partitionEqualCmpFunc[porterslodge/route.Held]", by kernel_rfl, Tryz.func107.trans (congrArg some (by kernel_rfl))⟩,
  f27 := ⟨ "slices.partitionCmpFunc[porterslodge/route.Held]", by kernel_rfl, Tryz.func108.trans (congrArg some (by kernel_rfl))⟩,
  f28 := Tryz.func109.trans (congrArg some (by kernel_rfl)),
  f29 := Tryz.func110.trans (congrArg some (by kernel_rfl)),
  f46 := ⟨ "slices.siftDownCmpFunc[porterslodge/route.Held]", by kernel_rfl, Tryz.func132.trans (congrArg some (by kernel_rfl))⟩,
  f47 := Tryz.func133.trans (congrArg some (by kernel_rfl)),
  f48 := Tryz.func134.trans (congrArg some (by kernel_rfl)),
  f49 := ⟨ "slices.medianAdjacentCmpFunc[porterslodge/route.Held]", by kernel_rfl, Tryz.func135.trans (congrArg some (by kernel_rfl))⟩,
  f50 := ⟨ "slices.medianCmpFunc[porterslodge/route.Held]", by kernel_rfl, Tryz.func136.trans (congrArg some (by kernel_rfl))⟩,
  f57 := ⟨ "slices.order2CmpFunc[porterslodge/route.Held]", by kernel_rfl, Tryz.func158.trans (congrArg some (by kernel_rfl))⟩,
  t0 := Tryz.underlying0,
  a0 := Tryz.isAgg0,
  z0 := Tryz.sizeOf0,
  v0 := Tryz.zeroValue0,
  t3 := Tryz.underlying3,
  a3 := Tryz.isAgg3,
  z3 := Tryz.sizeOf3,
  v3 := Tryz.zeroValue3,
  t4 := Tryz.underlying4,
  a4 := Tryz.isAgg4,
  z4 := Tryz.sizeOf4,
  v4 := Tryz.zeroValue4,
  t5 := Tryz.underlying5,
  a5 := Tryz.isAgg5,
  z5 := Tryz.sizeOf5,
  v5 := Tryz.zeroValue5,
  t9 := Tryz.underlying9,
  a9 := Tryz.isAgg9,
  z9 := Tryz.sizeOf9,
  v9 := Tryz.zeroValue9,
  t22 := Tryz.underlying34,
  a22 := Tryz.isAgg34,
  z22 := Tryz.sizeOf34,
  v22 := Tryz.zeroValue34,
  t25 := Tryz.underlying114,
  a25 := Tryz.isAgg114,
  z25 := Tryz.sizeOf114,
  v25 := Tryz.zeroValue114,
  t39 := Tryz.underlying144,
  a39 := Tryz.isAgg144,
  z39 := Tryz.sizeOf144,
  v39 := Tryz.zeroValue144,
  t45 := Tryz.underlying167,
  a45 := Tryz.isAgg167,
  z45 := Tryz.sizeOf167,
  v45 := Tryz.zeroValue167,
  t46 := Tryz.underlying168,
  a46 := Tryz.isAgg168,
  z46 := Tryz.sizeOf168,
  v46 := Tryz.zeroValue168,
  t50 := Tryz.underlying138,
  a50 := Tryz.isAgg138,
  z50 := Tryz.sizeOf138,
  v50 := Tryz.zeroValue138,
  t53 := Tryz.underlying174,
  a53 := Tryz.isAgg174,
  z53 := Tryz.sizeOf174,
  v53 := Tryz.zeroValue174,
  t55 := Tryz.underlying176,
  a55 := Tryz.isAgg176,
  z55 := Tryz.sizeOf176,
  v55 := Tryz.zeroValue176,
  t66 := Tryz.underlying194,
  a66 := Tryz.isAgg194,
  z66 := Tryz.sizeOf194,
  v66 := Tryz.zeroValue194,
  t70 := Tryz.underlying136,
  a70 := Tryz.isAgg136,
  z70 := Tryz.sizeOf136,
  v70 := Tryz.zeroValue136,
  t76 := Tryz.underlying220,
  a76 := Tryz.isAgg220,
  z76 := Tryz.sizeOf220,
  v76 := Tryz.zeroValue220,
  t77 := Tryz.underlying221,
  a77 := Tryz.isAgg221,
  z77 := Tryz.sizeOf221,
  v77 := Tryz.zeroValue221 }
theorem zkr {cmp : zb → zb → Option Int} {l r : List zb} {g : FuncId} {cb : Array Value} {B : Nat} {A : Nat → Prop} {w : World} {L : List Ob} {i : Nat} {v : Value} (eg : ∀ (args : Array Value) (w : World), (callFunc g args).run Tryz.prog w = .ok (.enter g args) w) (hcl : ∀ (w1 : World), Tr True B A w A w1 → (∀ b, w1.heap.size ≤ b → A b) → ∀ (x y : zb) (cx cy : List Value) (c : Int), GoT.rep A w1 cx x → GoT.rep A w1 cy y → cmp x y = some c → Ret Tryz.prog g (#[.agg cx.toArray, .agg cy.toArray] ++ cb) w1 fun v w' => v = .int .i64 c ∧ Kp True w1 w') (hH : Hp B A w L) (hi : L[i]? = some (o_46 v l)) (hB : B ≤ w.heap.size) (hA : ∀ b, w.heap.size ≤ b → A b) (hr : Qr cmp l = some r) : Ret Tryz.prog 53 #[v, .func (.func g) #[] cb] w fun u w' => u = .tuple #[] ∧ Hp B A w' (L.set i (o_46 v r)) ∧ Tr Dw B A w A w' :=
  Hp.sortFuncK (Dw := Dw) (fun p c w => Go.Proofs.AnyF.slices_SortFunc_none zdR p c _ w) (fun enc hk hone cf hO blk off cap d w hc hh hb hs => Go.Proofs.AnyQ.slices_SortFunc zdR _ Tryz.isAgg46 Tryz.sizeOf46 enc hk hone cf hO g cb blk off cap d w eg hc hh hb hs) hcl hH hi hB hA hr
theorem zcb (w : World) {A : Nat → Prop} {B : Nat} (hB : B ≤ w.heap.size) (hA : ∀ b, w.heap.size ≤ b → A b) (l : (List zb)) (v_l : Value) {L : List Ob} (hH : Hp B A w (o_46 v_l l :: L)) {r : (List zb)} (hm : jD l = some r) : Ret prog 26 #[v_l] w fun v w' => ∃ A1 : Nat → Prop, v = .tuple #[] ∧ Hp B A1 w' (o_46 v_l r :: L) ∧ Tr Dw B A w A1 w' := by
 unfold jD at hm
 refine enter func26 rfl ntmps26 rfl ?_
 have hK : Tr Dw B A w A w := Tr.refl (Dw := Dw) hA
 refine zo (Mm ?_)
 obtain ⟨x1, hx1, hm⟩ := Bs hm
 refine zdZ call53 rfl rfl rfl rfl (zkr (Dw := Dw) call54 (fun w7 ht8 h9 p11 q14 c12 c15 c17 h13 h16 h10 => by obtain ⟨rfl, _⟩ := zdh h13; obtain ⟨rfl, _⟩ := zdh h16; exact (zev (Dw := True) w7 h9 p11 q14 h10).mono fun _ _ h => ⟨h.1, h.2⟩) hH (i := 0) rfl hB hA hx1) ?_
 rintro _ w2 ⟨rfl, hH3, ht4⟩
 replace hK := Tt hK ht4; replace hH := hH3
 refine zn (fun a ha18 => ?_)
 obtain rfl := Oi hm
 try simp only [↓ib, ↓th]
 exact zkZ (retQ rfl (Res.zero results26) ⟨A, rfl, hH, hK⟩ a ha18)
theorem jT (w : World) {A : Nat → Prop} {B : Nat} (hB : B ≤ w.heap.size) (hA : ∀ b, w.heap.size ≤ b → A b) (r_ : ze) (b_r_ : Nat) (v_r_0 : Value) (h_r_0 : Sl A w v_r_0 r_.assigner.people) (v_r_1 : Value) (h_r_1 : Sl A w v_r_1 r_.assigner.cals) (v_r_2 : Value) (h_r_2 : Sl A w v_r_2 r_.assigner.steps) (v_r_3 : Value) (v_r_4 : Value) (h_r_4 : Sl A w v_r_4 r_.waiting) (v_r_5 : Value) (h_r_5 : Sl A w v_r_5 r_.held) (m_r_0 : Nat) {L : List Ob} (hH : Hp B A w (obC b_r_ [v_r_0, v_r_1, v_r_2, v_r_3, Ii r_.now, v_r_4, v_r_5, .map (some m_r_0)] 58 :: o_4 v_r_3 r_.assigner.away :: obRM (κ := Int) (α := za) m_r_0 r_.work :: L)) {r : (List zb)} (hm : ZC r_ = some r) : Ret prog 6 #[Pt b_r_] w fun v w' => ∃ s0, ∃ A1 : Nat → Prop, v = s0 ∧ Hp B A1 w' (o_46 s0 r :: obC b_r_ [v_r_0, v_r_1, v_r_2, v_r_3, Ii r_.now, v_r_4, v_r_5, .map (some m_r_0)] 58 :: o_4 v_r_3 r_.assigner.away :: obRM (κ := Int) (α := za) m_r_0 r_.work :: L) ∧ Tr Dw B A w A1 w' := by
 unfold ZC at hm
 refine enter func6 rfl ntmps6 rfl ?_
 have hK : Tr Dw B A w A w := Tr.refl (Dw := Dw) hA
 refine Sr (As (To ?_))
 refine Sr (Mm (Nc (Vy (Fc 6 underlying58 rfl sizeOf34 rfl rfl) (Ld (Hc 6 0 hH rfl rfl) isAgg34 ?_))))
 obtain ⟨x14, hx14, hm⟩ := Bs hm
 refine Vc call25 (QX (Dw := Dw) w hA r_.held v_r_5 h_r_5 hx14) ?_
 rintro v15 w17 ⟨_, rfl, h16, hk18⟩
 obtain ⟨A19, ht20, hH21⟩ := Hp.addOwnd (Dw := Dw) hH hB hA hk18 h16
 obtain ⟨hK, hB, hA⟩ := U0 ht20 hK hB
 replace hH := hH21
 refine As (To ?_)
 refine Sr (Mm ?_)
 obtain ⟨x22, hx22, hm⟩ := Bs hm
 refine Vc call26 (zcb (Dw := Dw) w17 hB hA x14 v15 hH hx22) ?_
 rintro _ w23 ⟨A24, rfl, hH25, ht26⟩
 replace hK := Tt hK ht26; replace hH := hH25
 refine To ?_
 refine Sr (Mm (As (To ?_)))
 obtain rfl := Oi hm
 refine Rt (Res.one results6 rfl) ?_
 exact ⟨v15, A24, rfl, hH, hK⟩
theorem qP (w : World) {A : Nat → Prop} (hA : ∀ b, w.heap.size ≤ b → A b) (s : (List zd)) (v_s : Value) (h_s : Sl A w v_s s) (f : zd → Option Bool) (f_f : FuncId) (f_a f_c : Array Value) (f_call : ∀ (args : Array Value) (w : World), (callFunc f_f args).run prog w = .ok (.enter f_f args) w) (f_spec : ∀ (w1 : World) (A1 : Nat → Prop), Tr Dw w.heap.size A w A1 w1 → (∀ b, w1.heap.size ≤ b → A1 b) → ∀ (y0 : zd) (v1 : Value) (h2 : Sl A1 w1 v1 y0.skills) (r : Bool), f y0 = some r → Ret prog f_f (f_a ++ #[.agg #[Ii y0.no, Ii y0.capacity, Ii y0.calendar, v1]] ++ f_c) w1 fun v w' => v = .bool r ∧ Kp Dw w1 w') {r : Int} (hm : zY s f = some r) : Ret prog 43 #[v_s, .func (.func f_f) f_a f_c] w fun v w' => v = Ii r ∧ Kp Dw w w' := by
 unfold zY at hm
 refine enter func43 rfl ntmps43 rfl ?_
 have hA0 := hA
 obtain ⟨hB, hK, hH⟩ := St (Dw := Dw) hA
 refine Sr (As (To ?_))
 refine zh (Sr (Mm (Vy (zA h_s rfl underlying22 rfl) (Mm (To ?_)))))
 have hn23 := Sl.le h_s
 obtain ⟨o3, ho3, hm⟩ := Bs hm
 refine zu (ι := (Unit × (Nat → Prop))) (fun ⟨s4, A10⟩ => []) (fun ⟨s4, A10⟩ => fun w' => o3 = .fin s4 ∧ Hp w.heap.size A10 w' ([]) ∧ Tr Dw w.heap.size A w A10 w') ?_ ?_
 ·refine zl ?_
  refine zS ho3 (fun k6 _ a w' => ∃ i : (Nat → Prop), Has ⟨19, [], none⟩ a ([(0, v_s), (1, .func (.func f_f) f_a f_c), (7, Ii (s.length : Int)), (8, Ii (k6 : Int))]) ∧ Hp w.heap.size i w' ([]) ∧ Tr Dw w.heap.size A w i w') (fun a ha => ⟨A, ha.sb, ⟨hH, Tr.refl (Dw := Dw) hA⟩⟩) ?_
  rintro K k6 _ a w13 ⟨A14, ha39, hH15, hr5⟩ hle19 K22 h21
  refine C_of ?_ ha39
  obtain ⟨h_s, hK, hB, hA⟩ := U1 hr5 hK hB h_s
  replace hH := hH15
  refine Sr (Vy (zR rfl rfl) (To ?_))
  refine zh ?_
  refine Cc (fun hc24 => ?_) fun hc24 => ?_
  ·have hlt20 := zL hc24
   obtain ⟨x16, h17, h18⟩ := K22 hlt20
   refine Sk ?_
   refine zh (zl (Sr (Mm (As (To ?_)))))
   refine Sr (Mm (Mm (Mm ?_)))
   obtain ⟨x25, hx25, h17⟩ := Bs h17
   refine zy h_s hx25 underlying22 sizeOf61 rfl rfl rfl ?_
   intro b26 o27 h28
   obtain ⟨v29, h31, h30⟩ := Zo h28
   refine Vy (zx h31 isAgg61 sizeOf61 rfl) ?_
   obtain ⟨x32, hx32, h17⟩ := Bs h17
   refine Vc f_call (f_spec w13 _ hK hA x25 v29 h30 _ hx32) ?_
   rintro _ w33 ⟨rfl, hk34⟩
   have ht35 := Kp.tr hk34 hA hB; replace hH := Hp.kp hH hk34; replace hK := Tt hK ht35; replace hr5 := Tt hr5 ht35
   refine To ?_
   refine Cc (fun hc36 => ?_) fun hc36 => ?_
   ·rw [if_pos hc36] at h17
    refine Sr (Mm (As (To ?_)))
    obtain rfl := Oi h17
    obtain rfl := (h18 : Lp.rt _ = _)
    rw [Lp.andThen_rt] at hm
    obtain rfl := Oi hm
    refine Rt (Res.one results43 rfl) ?_
    exact ⟨rfl, hK.kp⟩
   rw [if_neg (nt hc36)] at h17
   refine Sk ?_
   refine zo (Vy (zN rfl rfl) (Mm ?_))
   obtain rfl := Oi h17
   refine zn (fun a ha37 => ?_)
   exact ⟨(), hlt20, h18, ⟨A14, ha37.sub ⟨rfl, rfl, rfl, Ws hlt20 hn23, trivial⟩, ⟨hH, hr5⟩⟩⟩
  refine zQ (fun a ha38 => ?_)
  exact ⟨((), A14), ha38.sub trivial, ⟨(h21 (zK hle19 hc24)).symm, hH, hr5⟩⟩
 rintro ⟨s4, A10⟩ w7 ⟨rfl, hH11, hk8⟩ a ha9
 rw [Lp.andThen_fin] at hm
 replace hK := Tr.trans hK hk8; replace hA := hk8.new; replace hH := hH11
 refine C_at (n := ⟨19, [], none⟩) (fun _ _ => rfl) ?_ ha9
 refine Sr (As (To ?_))
 obtain rfl := Oi hm
 refine Rt (Res.one results43 rfl) ?_
 exact ⟨rfl, hK.kp⟩
theorem zeb (w : World) {A : Nat → Prop} (hA : ∀ b, w.heap.size ≤ b → A b) (p : zd) (v_p : Value) (h_p : Sl A w v_p p.skills) (p1 : Int) (b_p1 : Nat) (h_p1 : El A w b_p1 0 p1) {r : Bool} (hm : jK p p1 = some r) : Ret prog 89 #[.agg #[Ii p.no, Ii p.capacity, Ii p.calendar, v_p], Pt b_p1] w fun v w' => v = .bool r ∧ Kp Dw w w' := by
 unfold jK at hm
 refine enter func89 rfl ntmps89 rfl ?_
 have hA0 := hA
 obtain ⟨hB, hK, hH⟩ := St (Dw := Dw) hA
 refine Sr ?_
 refine Zy rfl rfl ?_
 intro b3 w4 h5
 have hk7 := h5.kp (Dw := Dw)
 have h6 : El (α := zd) A w4 b3 0 p := h5.el hA ⟨[Ii p.no], _, rfl, rfl, ⟨[Ii p.capacity], _, rfl, rfl, ⟨[Ii p.calendar], _, rfl, rfl, ⟨_, rfl, h_p⟩⟩⟩⟩
 have ht8 := Kp.tr hk7 hA hB; replace h_p1 := El.tr h_p1 ht8; replace hK := Tt hK ht8
 refine As (To ?_)
 refine Sr ?_
 have h9 := ZB h6
 refine Fa underlying61 rfl sizeOf3 (Li h9 isAgg3 (Li h_p1 isAgg3 (Vy (ql rfl rfl) (As (To ?_)))))
 obtain rfl := Oi hm
 refine Rt (Res.one results89 rfl) ?_
 exact ⟨rfl, hK.kp⟩
theorem JE (w : World) {A : Nat → Prop} (hA : ∀ b, w.heap.size ≤ b → A b) (people : (List zd)) (v_people : Value) (h_people : Sl A w v_people people) (no : Int) {r : Int} (hm : qf people no = some r) : Ret prog 67 #[v_people, Ii no] w fun v w' => v = Ii r ∧ Kp Dw w w' := by
 unfold qf at hm
 refine enter func67 rfl ntmps67 rfl ?_
 have hA0 := hA
 obtain ⟨hB, hK, hH⟩ := St (Dw := Dw) hA
 refine Sr ?_
 refine Zy rfl rfl ?_
 intro b3 w4 h5
 have hk7 := h5.kp (Dw := Dw)
 have h6 : El (α := Int) A w4 b3 0 no := h5.el hA rfl
 have ht8 := Kp.tr hk7 hA hB
 obtain ⟨h_people, hK, hB, hA⟩ := U1 ht8 hK hB h_people
 refine As (To ?_)
 refine Sr (Mm (Vy (qk rfl rfl) ?_))
 obtain ⟨x10, hx10, hm⟩ := Bs hm
 refine Vc call43 (qP (Dw := Dw) w4 hA people v_people h_people (fun y21 => jK y21 no) 89 #[] #[Pt b3] call89 (fun w17 A18 ht19 h20 y11 v12 h13 r14 h15 => (zeb (Dw := Dw) w17 h20 y11 v12 h13 no b3 (El.tr h6 ht19) h15).mono (fun _ _ h => ⟨h.1, h.2⟩)) hx10) ?_
 rintro _ w22 ⟨rfl, hk23⟩
 have ht24 := Kp.tr hk23 hA hB; replace hK := Tt hK ht24
 refine As (To ?_)
 obtain rfl := Oi hm
 refine Rt (Res.one results67 rfl) ?_
 exact ⟨rfl, hK.kp⟩
theorem Qu (w : World) {A : Nat → Prop} (hA : ∀ b, w.heap.size ≤ b → A b) (people : (List zd)) (v_people : Value) (h_people : Sl A w v_people people) (held : (List zb)) (v_held : Value) (h_held : Sl A w v_held held) {r : (List Int)} (hm : jr people held = some r) : Ret prog 75 #[v_people, v_held] w fun v w' => ∃ s0, v = s0 ∧ Ownd 3 w w' s0 r ∧ Kp Dw w w' := by
 unfold jr at hm
 refine enter func75 rfl ntmps75 rfl ?_
 have hA0 := hA
 obtain ⟨hB, hK, hH⟩ := St (Dw := Dw) hA
 refine Sr (As (To ?_))
 refine Sr (Mm (Vy (zA h_people rfl underlying22 rfl) ?_))
 obtain ⟨x5, hx5, hm⟩ := Bs hm
 refine jl (Dw := Dw) (e := 3) (ti := t3) hH hx5 (fun _ _ => rfl) underlying26 QY rfl rfl rfl (by decide) (by decide) hB hA rfl rfl rfl ?_
 intro v6 w7 A8 hH9 ht10
 obtain ⟨h_people, h_held, hK, hB, hA⟩ := U2 ht10 hK hB h_people h_held
 replace hH := hH9
 refine As (To ?_)
 refine zh (Sr (Mm (Vy (zA h_held rfl underlying34 rfl) (Mm (To ?_)))))
 have hn35 := Sl.le h_held
 obtain ⟨o11, ho11, hm⟩ := Bs hm
 refine zu (ι := ((List Int) × Value × (Nat → Prop))) (fun ⟨s12, v18, A20⟩ => [(5, v18)]) (fun ⟨s12, v18, A20⟩ => fun w' => o11 = .fin s12 ∧ Hp w.heap.size A20 w' (o_3 v18 s12 :: []) ∧ Tr Dw w.heap.size A8 w7 A20 w') ?_ ?_
 ·refine zl ?_
  refine zS ho11 (fun k14 s22 a w' => ∃ i : (Value × (Nat → Prop)), Has ⟨30, [], none⟩ a ([(0, v_people), (5, i.1), (11, v_held), (12, Ii (held.length : Int)), (13, Ii (k14 : Int))]) ∧ Hp w.heap.size i.2 w' (o_3 i.1 s22 :: []) ∧ Tr Dw w.heap.size A8 w7 i.2 w') (fun a ha => ⟨(v6, A8), ha.sb, ⟨hH, Tr.refl (Dw := Dw) hA⟩⟩) ?_
  rintro K k14 s22 a w23 ⟨⟨v24, A26⟩, ha71, hH27, hr13⟩ hle31 K34 h33
  refine C_of ?_ ha71
  replace hB := Bx hB hr13; replace hA := hr13.new
  obtain ⟨h_people, h_held⟩ := T2 hr13 h_people h_held
  replace hH := hH27
  refine Sr (Vy (zR rfl rfl) (To ?_))
  refine zh ?_
  refine Cc (fun hc36 => ?_) fun hc36 => ?_
  ·have hlt32 := zL hc36
   obtain ⟨x28, h29, h30⟩ := K34 hlt32
   refine Sk ?_
   refine zh (zl (Sr ?_))
   obtain ⟨x37, hx37, h29⟩ := Bs h29
   refine zy h_held hx37 underlying34 sizeOf46 rfl rfl rfl ?_
   intro b38 o39 h40
   obtain ⟨h41, _⟩ := qd h40
   refine Vy (zx h41 isAgg46 sizeOf46 rfl) ?_
   refine Zf zeroValue46 rfl ?_
   intro b42 w43 h44
   refine Sn h44 sizeOf46 ?_
   intro w45 h46
   have hk48 := h46.kp (Dw := Dw)
   have h47 : El (α := zb) A26 w45 b42 0 x37 := h46.el hA ⟨[Ii x37.ticket], _, rfl, rfl, ⟨[Ii x37.person], _, rfl, rfl, ⟨[Ii x37.weight], _, rfl, rfl, rfl⟩⟩⟩
   have ht49 := Kp.tr hk48 hA hB; replace hH := Hp.kp hH hk48; replace h_people := Sl.tr h_people ht49; replace hr13 := Tt hr13 ht49; replace hB := Bx hB ht49; replace hA := ht49.new
   refine To ?_
   refine ZZ (Dw := Dw) 11 zH (by kernel_rfl) ?_
   simp only [List.take, List.drop]
   refine Qm (Qm ?_)
   have h50 := jk h47
   refine Qf underlying46 rfl sizeOf3 (Qi h50 isAgg3 ?_)
   obtain ⟨x51, hx51, h29⟩ := Bs h29
   refine Qo (Ii x51) call67 rfl rfl rfl rfl (fun w' hw' => (JE (Dw := Dw) w' (fun b hb => hA b (Nat.le_trans hw'.size hb)) people v_people (Sl.kp h_people hw') x37.person hx51).mono (fun _ _ h => ⟨h.1, Kp.trans (Dw := Dw) hw' h.2⟩)) ?_
   obtain ⟨x52, hx52, h29⟩ := Bs h29
   refine Zd (α := Int) (e := 3) (v := v24) (l := s22) hH (i := 0) rfl hx52 underlying26 sizeOf3 rfl rfl rfl ?_
   intro b53 o54 h55 hl56
   refine Qi h55 isAgg3 ?_
   have h57 := zaP h47
   refine Qf underlying46 rfl sizeOf3 (Qi h57 isAgg3 (Qv (fun w' hw' => zN rfl rfl) ?_))
   refine Zd (α := Int) (e := 3) (v := v24) (l := s22) hH (i := 0) rfl hx52 underlying26 sizeOf3 rfl rfl rfl ?_
   intro b58 o59 h60 hl61
   refine QU (fun w62 hk63 => ?_)
   try simp only [List.take, List.drop]
   have ht64 := Kp.tr hk63 hA hB; replace hH := Hp.kp hH hk63; replace hr13 := Tt hr13 ht64; replace hB := Bx hB ht64; replace hA := ht64.new
   obtain ⟨x65, hx65, h29⟩ := Bs h29
   refine jI (Dw := Dw) (α := Int) (e := 3) (v := v24) (l := s22) hH (i := 0) rfl hl61 hx65 rfl sizeOf3 rfl hB hA rfl rfl ?_
   intro w66 hH67 ht68
   replace hr13 := Tt hr13 ht68; replace hH := hH67
   refine To ?_
   refine zo (Vy (zN rfl rfl) (Mm ?_))
   obtain rfl := Oi h29
   refine zn (fun a ha69 => ?_)
   exact ⟨x65, hlt32, h30, ⟨(v24, A26), ha69.sub ⟨rfl, rfl, rfl, rfl, Ws hlt32 hn35, trivial⟩, ⟨hH, hr13⟩⟩⟩
  refine zQ (fun a ha70 => ?_)
  exact ⟨(s22, v24, A26), ha70.sb, ⟨(h33 (zK hle31 hc36)).symm, hH, hr13⟩⟩
 rintro ⟨s12, v18, A20⟩ w15 ⟨rfl, hH21, hk16⟩ a ha17
 rw [Lp.andThen_fin] at hm
 replace hK := Tr.trans hK hk16; replace hA := hk16.new; replace hH := hH21
 refine C_at (n := ⟨30, [], none⟩) (fun _ _ => rfl) ?_ ha17
 refine Sr (Mm (As (To ?_)))
 obtain rfl := Oi hm
 refine Rt (Res.one results75 rfl) ?_
 exact ⟨v18, rfl, (Hp.ownd hH (i := 0) rfl), hK.kp⟩
theorem zbW (w : World) (m : Int) : Ret prog 92 #[Ii m] w fun v w' => v = Ii (Zm m) ∧ w = w' := by
 generalize hm : Zm m = r
 unfold Zm at hm
 refine enter func92 rfl ntmps92 rfl ?_
 refine Sr (As (To ?_))
 refine zh (Sr (Mm ?_))
 refine Vc call81 (jJ w m 0 3000000) ?_
 rintro _ _ ⟨rfl, rfl⟩
 refine Vy (Zs rfl) (To ?_)
 refine Cc (fun hc1 => ?_) fun hc1 => ?_
 ·rw [if_pos hc1] at hm
  refine Sr (As (To ?_))
  obtain rfl := hm
  refine Rt (Res.one results92 rfl) ?_
  exact ⟨rfl, rfl⟩
 rw [if_neg (nt hc1)] at hm
 refine Sk ?_
 refine Sr (As (To ?_))
 obtain rfl := hm
 refine Rt (Res.one results92 rfl) ?_
 exact ⟨rfl, rfl⟩
theorem Qs (w : World) {A : Nat → Prop} (vals : (List Int)) (v_vals : Value) (h_vals : Sl A w v_vals vals) {r : Int} (hm : Zz vals = some r) : Ret prog 68 #[v_vals] w fun v w' => v = Ii r ∧ w = w' := by
 unfold Zz at hm
 refine enter func68 rfl ntmps68 rfl ?_
 refine Sr (As (To ?_))
 refine Sr (As (To ?_))
 refine zh (Sr (Mm (Vy (zA h_vals rfl underlying150 rfl) (Mm (To ?_)))))
 have hn19 := Sl.le h_vals
 obtain ⟨o3, ho3, hm⟩ := Bs hm
 refine zu (ι := Unit) (fun (s4 : Unit) => [(3, Ii 0)]) (fun (s4 : Unit) => fun w' => o3 = .fin s4 ∧ w = w') ?_ ?_
 ·refine zl ?_
  refine zS ho3 (fun k6 _ a w' => ∃ i : Unit, Has ⟨18, [], none⟩ a ([(3, Ii 0), (6, v_vals), (7, Ii (vals.length : Int)), (8, Ii (k6 : Int))]) ∧ w = w') (fun a ha => ⟨(), ha.sb, rfl⟩) ?_
  rintro K k6 _ a _ ⟨_, ha28, rfl⟩ hle15 K18 h17
  refine C_of ?_ ha28
  refine Sr (Vy (zR rfl rfl) (To ?_))
  refine zh ?_
  refine Cc (fun hc20 => ?_) fun hc20 => ?_
  ·have hlt16 := zL hc20
   obtain ⟨x12, h13, h14⟩ := K18 hlt16
   refine Sk ?_
   refine zh (zl (Sr ?_))
   obtain ⟨x21, hx21, h13⟩ := Bs h13
   refine zy h_vals hx21 underlying150 sizeOf29 rfl rfl rfl ?_
   intro b22 o23 h24
   refine Li h24 isAgg29 (As (To ?_))
   refine Sr (Mm (Mm (Vy (ZW rfl rfl) (To ?_))))
   refine Cc (fun hc25 => ?_) fun hc25 => ?_
   ·rw [if_pos hc25] at h13
    refine Sr (Mm (As (To ?_)))
    obtain rfl := Oi h13
    obtain rfl := (h14 : Lp.rt _ = _)
    rw [Lp.andThen_rt] at hm
    obtain rfl := Oi hm
    refine Rt (Res.one results68 rfl) ?_
    exact ⟨rfl, rfl⟩
   rw [if_neg (nt hc25)] at h13
   refine Sk ?_
   refine zo (Vy (zN rfl rfl) (Mm ?_))
   obtain rfl := Oi h13
   refine zn (fun a ha26 => ?_)
   exact ⟨(), hlt16, h14, ⟨(), ha26.sub ⟨rfl, rfl, rfl, Ws hlt16 hn19, trivial⟩, rfl⟩⟩
  refine zQ (fun a ha27 => ?_)
  exact ⟨(), ha27.sb, ⟨(h17 (zK hle15 hc20)).symm, rfl⟩⟩
 rintro s4 _ ⟨rfl, rfl⟩ a ha9
 rw [Lp.andThen_fin] at hm
 refine C_at (n := ⟨18, [], none⟩) (fun _ _ => rfl) ?_ ha9
 refine Sr (Mm (As (To ?_)))
 obtain rfl := Oi hm
 refine Rt (Res.one results68 rfl) ?_
 exact ⟨rfl, rfl⟩
theorem JQ (w : World) {A : Nat → Prop} (hA : ∀ b, w.heap.size ≤ b → A b) (c : zg) (v_c0 : Value) (h_c0 : Sl A w v_c0 c.zone.changes) (v_c1 : Value) (h_c1 : Sl A w v_c1 c.week) (v_c2 : Value) (h_c2 : Sl A w v_c2 c.specials) (from_ : Int) (to_ : Int) {r : (zg × Int × Int)} (hm : qq c from_ to_ = some r) : Ret prog 93 #[.agg #[Ii c.zone.offset, v_c0, v_c1, v_c2], Ii from_, Ii to_] w fun v w' => ∃ c0 c1 c2, v = .func (.func 118) #[] #[Pt c0, Pt c1, Pt c2] ∧ El A w' c0 0 r.1 ∧ El A w' c1 0 r.2.1 ∧ El A w' c2 0 r.2.2 ∧ Kp Dw w w' := by
 unfold qq at hm
 refine enter func93 rfl ntmps93 rfl ?_
 have hA0 := hA
 obtain ⟨hB, hK, hH⟩ := St (Dw := Dw) hA
 refine Sr ?_
 refine Zy rfl rfl ?_
 intro b7 w9 h10
 have hk12 := h10.kp (Dw := Dw)
 have h11 : El (α := zg) A w9 b7 0 c := h10.el hA ⟨[Ii c.zone.offset, v_c0], _, rfl, ⟨[Ii c.zone.offset], _, rfl, rfl, ⟨_, rfl, h_c0⟩⟩, ⟨[v_c1], _, rfl, ⟨_, rfl, h_c1⟩, ⟨_, rfl, h_c2⟩⟩⟩
 have ht13 := Kp.tr hk12 hA hB
 obtain ⟨hK, hB, hA⟩ := U0 ht13 hK hB
 refine Zy rfl rfl ?_
 intro b14 w15 h16
 have hk18 := h16.kp (Dw := Dw)
 have h17 : El (α := Int) A w15 b14 0 from_ := h16.el hA rfl
 have ht19 := Kp.tr hk18 hA hB; replace h11 := El.tr h11 ht19
 obtain ⟨hK, hB, hA⟩ := U0 ht19 hK hB
 refine Zy rfl rfl ?_
 intro b20 w21 h22
 have hk24 := h22.kp (Dw := Dw)
 have h23 : El (α := Int) A w21 b20 0 to_ := h22.el hA rfl
 have ht25 := Kp.tr hk24 hA hB; replace h11 := El.tr h11 ht25; replace h17 := El.tr h17 ht25; replace hK := Tt hK ht25
 refine As (To ?_)
 refine Sr (Vy (qk rfl rfl) (As (To ?_)))
 obtain rfl := Oi hm
 refine Rt (Res.one results93 rfl) ?_
 exact ⟨b7, b14, b20, rfl, (El.out (Dw := Dw) h11 hA0 hK), (El.out (Dw := Dw) h17 hA0 hK), (El.out (Dw := Dw) h23 hA0 hK), hK.kp⟩
theorem zda (w : World) {A : Nat → Prop} (hA : ∀ b, w.heap.size ≤ b → A b) (c : zg) (v_c0 : Value) (h_c0 : Sl A w v_c0 c.zone.changes) (v_c1 : Value) (h_c1 : Sl A w v_c1 c.week) (v_c2 : Value) (h_c2 : Sl A w v_c2 c.specials) (from_ : Int) (to_ : Int) {r : (zg × Int × Int)} (hm : jO c from_ to_ = some r) : Ret prog 119 #[.agg #[Ii c.zone.offset, v_c0, v_c1, v_c2], Ii from_, Ii to_] w fun v w' => ∃ c0 c1 c2, v = .func (.func 141) #[] #[Pt c0, Pt c1, Pt c2] ∧ El A w' c0 0 r.1 ∧ El A w' c1 0 r.2.1 ∧ El A w' c2 0 r.2.2 ∧ Kp Dw w w' := by
 unfold jO at hm
 refine enter func119 rfl ntmps119 rfl ?_
 have hA0 := hA
 obtain ⟨hB, hK, hH⟩ := St (Dw := Dw) hA
 refine Sr ?_
 refine Zy rfl rfl ?_
 intro b7 w9 h10
 have hk12 := h10.kp (Dw := Dw)
 have h11 : El (α := zg) A w9 b7 0 c := h10.el hA ⟨[Ii c.zone.offset, v_c0], _, rfl, ⟨[Ii c.zone.offset], _, rfl, rfl, ⟨_, rfl, h_c0⟩⟩, ⟨[v_c1], _, rfl, ⟨_, rfl, h_c1⟩, ⟨_, rfl, h_c2⟩⟩⟩
 have ht13 := Kp.tr hk12 hA hB
 obtain ⟨hK, hB, hA⟩ := U0 ht13 hK hB
 refine Zy rfl rfl ?_
 intro b14 w15 h16
 have hk18 := h16.kp (Dw := Dw)
 have h17 : El (α := Int) A w15 b14 0 from_ := h16.el hA rfl
 have ht19 := Kp.tr hk18 hA hB; replace h11 := El.tr h11 ht19
 obtain ⟨hK, hB, hA⟩ := U0 ht19 hK hB
 refine Zy rfl rfl ?_
 intro b20 w21 h22
 have hk24 := h22.kp (Dw := Dw)
 have h23 : El (α := Int) A w21 b20 0 to_ := h22.el hA rfl
 have ht25 := Kp.tr hk24 hA hB; replace h11 := El.tr h11 ht25; replace h17 := El.tr h17 ht25; replace hK := Tt hK ht25
 refine As (To ?_)
 refine Sr (Vy (qk rfl rfl) (As (To ?_)))
 obtain rfl := Oi hm
 refine Rt (Res.one results119 rfl) ?_
 exact ⟨b7, b14, b20, rfl, (El.out (Dw := Dw) h11 hA0 hK), (El.out (Dw := Dw) h17 hA0 hK), (El.out (Dw := Dw) h23 hA0 hK), hK.kp⟩
theorem zeZ (w : World) {A : Nat → Prop} (hA : ∀ b, w.heap.size ≤ b → A b) (z : Zc) (v_z : Value) (h_z : Sl A w v_z z.changes) {r : (List zO)} (hm : Jo z = some r) : Ret prog 142 #[.agg #[Ii z.offset, v_z]] w fun v w' => ∃ s0, v = s0 ∧ Ownd 204 w w' s0 r ∧ Kp Dw w w' := by
 unfold Jo at hm
 refine enter func142 rfl ntmps142 rfl ?_
 have hA0 := hA
 obtain ⟨hB, hK, hH⟩ := St (Dw := Dw) hA
 refine Sr ?_
 refine Zy rfl rfl ?_
 intro b3 w4 h5
 have hk7 := h5.kp (Dw := Dw)
 have h6 : El (α := Zc) A w4 b3 0 z := h5.el hA ⟨[Ii z.offset], _, rfl, rfl, ⟨_, rfl, h_z⟩⟩
 have ht8 := Kp.tr hk7 hA hB; replace hH := Hp.kp hH hk7
 obtain ⟨hK, hB, hA⟩ := U0 ht8 hK hB
 refine As (To ?_)
 refine Sr ?_
 have h9 := zbu h6
 refine Fa underlying67 rfl sizeOf3 (Li h9 isAgg3 ?_)
 refine Vy (zaz underlying204 zeroValue204 (zdi _ underlying204) rfl (by with_unfolding_all rfl)) ?_
 refine ziw (Dw := Dw) (cells := #[Ii 0, Ii 3000001, Ii z.offset]) (l := ([(⟨0, 3000001, z.offset⟩ : zO)] : List zO)) (len := 1) hH underlying201 sizeOf204 zeroValue204 rfl (by kernel_rfl) (show (1 * 3 : Nat) ≠ 0 by decide) (show (1 * 3 : Nat) ≤ 2 ^ 24 by decide) hB hA ⟨[Ii 0, Ii 3000001, Ii z.offset], _, rfl, ⟨[Ii 0], _, rfl, rfl, ⟨[Ii 3000001], _, rfl, rfl, rfl⟩⟩, rfl⟩ rfl rfl ?_
 intro v10 w11 A14 hH16 ht15
 replace h6 := El.tr h6 ht15
 obtain ⟨hK, hB, hA⟩ := U0 ht15 hK hB
 replace hH := hH16
 refine As (To ?_)
 refine zh (Sr ?_)
 have h17 := zbx h6
 refine Fa underlying67 rfl sizeOf65 ?_
 obtain ⟨v18, h19, h20⟩ := El.list h17
 refine Ld h19 isAgg65 (Vy (zA h20 rfl underlying65 rfl) (Mm (To ?_)))
 have hn45 := Sl.le h20
 obtain ⟨o21, ho21, hm⟩ := Bs hm
 refine zu (ι := ((List zO) × Value × (Nat → Prop))) (fun ⟨s22, v28, A30⟩ => [(3, v28)]) (fun ⟨s22, v28, A30⟩ => fun w' => o21 = .fin s22 ∧ Hp w.heap.size A30 w' (obS (α := zO) 204 v28 s22 :: []) ∧ Tr Dw w.heap.size A14 w11 A30 w') ?_ ?_
 ·refine zl ?_
  refine zS ho21 (fun k24 s32 a w' => ∃ i : (Value × (Nat → Prop)), Has ⟨35, [], none⟩ a ([(3, i.1), (11, v18), (12, Ii (z.changes.length : Int)), (13, Ii (k24 : Int))]) ∧ Hp w.heap.size i.2 w' (obS (α := zO) 204 i.1 s32 :: []) ∧ Tr Dw w.heap.size A14 w11 i.2 w') (fun a ha => ⟨(v10, A14), ha.sb, ⟨hH, Tr.refl (Dw := Dw) hA⟩⟩) ?_
  rintro K k24 s32 a w33 ⟨⟨v34, A36⟩, ha86, hH37, hr23⟩ hle41 K44 h43
  refine C_of ?_ ha86
  replace h20 := Sl.tr h20 hr23; replace hB := Bx hB hr23; replace hA := hr23.new; replace hH := hH37
  refine Sr (Vy (zR rfl rfl) (To ?_))
  refine zh ?_
  refine Cc (fun hc46 => ?_) fun hc46 => ?_
  ·have hlt42 := zL hc46
   obtain ⟨x38, h39, h40⟩ := K44 hlt42
   refine Sk ?_
   refine zh (zl (Sr ?_))
   obtain ⟨x47, hx47, h39⟩ := Bs h39
   refine zy h20 hx47 underlying65 sizeOf74 rfl rfl rfl ?_
   intro b48 o49 h50
   obtain ⟨h51, _⟩ := zdO h50
   refine Vy (zx h51 isAgg74 sizeOf74 rfl) ?_
   refine Zf zeroValue74 rfl ?_
   intro b52 w53 h54
   refine Sn h54 sizeOf74 ?_
   intro w55 h56
   have hk58 := h56.kp (Dw := Dw)
   have h57 : El (α := zU) A36 w55 b52 0 x47 := h56.el hA ⟨[Ii x47.at_], _, rfl, rfl, rfl⟩
   have ht59 := Kp.tr hk58 hA hB; replace hH := Hp.kp hH hk58; replace hr23 := Tt hr23 ht59; replace hB := Bx hB ht59; replace hA := ht59.new
   refine To ?_
   refine Sr (Mm (Mm (Vy (zA (Hp.any (α := zO) (e := 204) (v := v34) (l := s32) hH (i := 0) rfl) rfl underlying201 rfl) (Vy (Qw rfl rfl) ?_))))
   have h60 := jW h57
   refine Fa underlying74 rfl sizeOf3 (Li h60 isAgg3 ?_)
   obtain ⟨x61, hx61, h39⟩ := Bs h39
   refine ZQ (α := zO) (e := 204) (v := v34) (l := s32) hH (i := 0) rfl hx61 underlying201 sizeOf204 rfl rfl rfl ?_
   intro b62 o63 h64 hl65
   have h66 := zdN h64
   refine Fa underlying204 rfl sizeOf3 ?_
   obtain ⟨x67, hx67, h39⟩ := Bs h39
   refine zcz (Dw := Dw) (α := zO) (e := 204) (v := v34) (l := s32) (foff := 1) hH (i := 0) rfl hl65 hx61 hx67 (fun _ h => by obtain ⟨_, _, rfl, rfl, ⟨_, _, rfl, rfl, rfl⟩⟩ := h; exact ⟨[_], _, rfl, rfl, ⟨[_], _, rfl, rfl, rfl⟩⟩) sizeOf3 rfl (by simp [Value.cells, Value.oneCell']) (by decide) hB hA (congrArg (fun z => some (Value.pointer (some ⟨_, z, none⟩))) (by simp [Nat.add_assoc])) rfl ?_
   intro w68 hH69 ht70
   replace h57 := El.tr h57 ht70; replace hr23 := Tt hr23 ht70; replace hB := Bx hB ht70; replace hA := ht70.new; replace hH := hH69
   refine To ?_
   refine zo (Mm ?_)
   have h71 := jW h57
   refine Fa underlying74 rfl sizeOf3 (Li h71 isAgg3 ?_)
   have h72 := JW h57
   refine Fa underlying74 rfl sizeOf3 (Li h72 isAgg3 ?_)
   refine Vy (zaz underlying204 zeroValue204 (zdi _ underlying204) rfl (by with_unfolding_all rfl)) ?_
   refine zX (Dw := Dw) (cells := #[Ii x47.at_, Ii 3000001, Ii x47.offset]) (l := ([(⟨x47.at_, 3000001, x47.offset⟩ : zO)] : List zO)) (len := 1) underlying201 sizeOf204 zeroValue204 rfl (by kernel_rfl) (show (1 * 3 : Nat) ≠ 0 by decide) (show (1 * 3 : Nat) ≤ 2 ^ 24 by decide) hA ⟨[Ii x47.at_, Ii 3000001, Ii x47.offset], _, rfl, ⟨[Ii x47.at_], _, rfl, rfl, ⟨[Ii 3000001], _, rfl, rfl, rfl⟩⟩, rfl⟩ rfl rfl ?_
   intro v73 w74 hk76 h75
   have ht77 := Kp.tr hk76 hA hB; replace hH := Hp.kp hH hk76; replace hr23 := Tt hr23 ht77; replace hB := Bx hB ht77; replace hA := ht77.new
   obtain ⟨x78, hx78, h39⟩ := Bs h39
   refine Zv (Dw := Dw) (e := 204) (v := v34) (l := x67) (ti := t204) (bytes := 24) (lim := 5864062014805) hH (i := 0) rfl h75 hx78 underlying201 zhR rfl rfl rfl rfl (by decide) (by decide) (by decide) hB hA rfl rfl rfl ?_
   intro v79 w80 A81 hH82 ht83
   replace hr23 := Tt hr23 ht83; replace hH := hH82
   refine As (To ?_)
   refine zo (Vy (zN rfl rfl) (Mm ?_))
   obtain rfl := Oi h39
   refine zn (fun a ha84 => ?_)
   exact ⟨x78, hlt42, h40, ⟨(v79, A81), ha84.sub ⟨rfl, rfl, rfl, Ws hlt42 hn45, trivial⟩, ⟨hH, hr23⟩⟩⟩
  refine zQ (fun a ha85 => ?_)
  exact ⟨(s32, v34, A36), ha85.sb, ⟨(h43 (zK hle41 hc46)).symm, hH, hr23⟩⟩
 rintro ⟨s22, v28, A30⟩ w25 ⟨rfl, hH31, hk26⟩ a ha27
 rw [Lp.andThen_fin] at hm
 replace hK := Tr.trans hK hk26; replace hA := hk26.new; replace hH := hH31
 refine C_at (n := ⟨35, [], none⟩) (fun _ _ => rfl) ?_ ha27
 refine Sr (Mm (As (To ?_)))
 obtain rfl := Oi hm
 refine Rt (Res.one results142 rfl) ?_
 exact ⟨v28, rfl, (Hp.ownd hH (i := 0) rfl), hK.kp⟩
theorem zcK (w : World) (a_ : Int) (b : Int) {r : Int} (hm : jf a_ b = some r) : Ret prog 145 #[Ii a_, Ii b] w fun v w' => v = Ii r ∧ w = w' := by
 unfold jf at hm
 refine enter func145 rfl ntmps145 rfl ?_
 refine Sr (As (To ?_))
 refine Sr (Mm (Mm ?_))
 obtain ⟨x1, hx1, hm⟩ := Bs hm
 refine Vy (zlW hx1 rfl rfl) (As (To ?_))
 refine zh (Sr (Mm (Mm ?_)))
 obtain ⟨x2, hx2, hm⟩ := Bs hm
 refine Vy (zhe hx2 rfl rfl) (Vy (zR rfl rfl) (To ?_))
 obtain ⟨s4, ho3, hm⟩ := Bs hm
 refine zu (ι := Unit) (fun (_ : Unit) => [(5, Ii s4)]) (fun (_ : Unit) => fun w' => w = w') ?_ ?_
 ·refine Cc (fun hc9 => ?_) fun hc9 => ?_
  ·rw [if_pos hc9] at ho3
   refine zo (Mm (Vy (Qw rfl rfl) (As ?_)))
   obtain rfl := Oi ho3
   refine zn (fun a ha10 => ?_)
   exact ⟨(), ha10.sb, rfl⟩
  rw [if_neg (nt hc9)] at ho3
  obtain rfl := Oi ho3
  refine qL (fun a ha11 => ?_)
  exact ⟨(), ha11.sb, rfl⟩
 rintro _ _ rfl a ha8
 refine C_at (n := ⟨16, [], none⟩) (fun _ _ => rfl) ?_ ha8
 refine Sr (Mm (As (To ?_)))
 obtain rfl := Oi hm
 refine Rt (Res.one results145 rfl) ?_
 exact ⟨rfl, rfl⟩
theorem jh (w : World) {A : Nat → Prop} (hA : ∀ b, w.heap.size ≤ b → A b) (x : (List zC)) (v_x : Value) (h_x : Sl A w v_x x) (target : Int) (cmp : zC → Int → Option Int) (cmp_f : FuncId) (cmp_a cmp_c : Array Value) (cmp_call : ∀ (args : Array Value) (w : World), (callFunc cmp_f args).run prog w = .ok (.enter cmp_f args) w) (cmp_spec : ∀ (w1 : World) (A1 : Nat → Prop), Tr Dw w.heap.size A w A1 w1 → (∀ b, w1.heap.size ≤ b → A1 b) → ∀ (y0 : zC) (v1 : Value) (h2 : Sl A1 w1 v1 y0.shifts) (y1 : Int) (r : Int), cmp y0 y1 = some r → Ret prog cmp_f (cmp_a ++ #[.agg #[Ii y0.day, v1], Ii y1] ++ cmp_c) w1 fun v w' => v = Ii r ∧ Kp Dw w1 w') {r : (Int × Bool)} (hm : Za x target cmp = some r) : Ret prog 160 #[v_x, Ii target, .func (.func cmp_f) cmp_a cmp_c] w fun v w' => v = .tuple #[Ii r.1, .bool r.2] ∧ Kp Dw w w' := by
 unfold Za at hm
 refine enter func160 rfl ntmps160 rfl ?_
 have hA0 := hA
 obtain ⟨hB, hK, hH⟩ := St (Dw := Dw) hA
 refine Sr (As (As (To ?_)))
 refine Sr (Mm (Vy (zA h_x rfl underlying69 rfl) (As (To ?_))))
 refine Sr (Mm (As (As (To ?_))))
 refine zh ?_
 obtain ⟨o3, ho3, hm⟩ := Bs hm
 refine zu (ι := ((Int × Int) × (Nat → Prop))) (fun ⟨s4, A10⟩ => [(0, v_x), (1, Ii target), (2, .func (.func cmp_f) cmp_a cmp_c), (8, Ii (x.length : Int)), (9, Ii s4.1)]) (fun ⟨s4, A10⟩ => fun w' => o3 = .fin s4 ∧ Hp w.heap.size A10 w' ([]) ∧ Tr Dw w.heap.size A w A10 w') ?_ ?_
 ·refine zl ?_
  refine zbd ho3 (fun s12 a w' => ∃ i : (Nat → Prop), Has ⟨49, [], none⟩ a ([(0, v_x), (1, Ii target), (2, .func (.func cmp_f) cmp_a cmp_c), (8, Ii (x.length : Int)), (9, Ii s12.1), (10, Ii s12.2)]) ∧ Hp w.heap.size i w' ([]) ∧ Tr Dw w.heap.size A w i w') (fun a ha => ⟨A, ha.sb, ⟨hH, Tr.refl (Dw := Dw) hA⟩⟩) ?_
  rintro K s12 a w13 ⟨A14, ha56, hH15, hr5⟩ K22
  refine C_of ?_ ha56
  obtain ⟨h_x, hK, hB, hA⟩ := U1 hr5 hK hB h_x
  replace hH := hH15
  obtain ⟨x16, h17, h18⟩ := K22
  refine zh (Sr (Mm (Mm (Vy (zR rfl rfl) (To ?_)))))
  refine Cc (fun hc23 => ?_) fun hc23 => ?_
  ·rw [if_pos hc23] at h17
   refine Sk ?_
   obtain ⟨s25, ho24, h17⟩ := Bs h17
   refine zu (ι := (Nat → Prop)) (fun (A30 : (Nat → Prop)) => [(0, v_x), (1, Ii target), (2, .func (.func cmp_f) cmp_a cmp_c), (8, Ii (x.length : Int)), (9, Ii s25.1), (10, Ii s25.2)]) (fun (A30 : (Nat → Prop)) => fun w' => Hp w.heap.size A30 w' ([]) ∧ Tr Dw w.heap.size A14 w13 A30 w') ?_ ?_
   ·have hr26 : Tr Dw w.heap.size A14 w13 A14 w13 := Tr.refl (Dw := Dw) hA
    refine zl (Sr (Mm (Mm (Vy (zN rfl rfl) (Vy (ziT underlying3 underlying144 rfl) ?_)))))
    obtain ⟨x32, hx32, ho24⟩ := Bs ho24
    refine Vy (zmb hx32 rfl rfl) (Vy (ziT underlying144 underlying3 rfl) (As (To ?_)))
    refine Sr (Mm (Mm (Mm ?_)))
    obtain ⟨x33, hx33, ho24⟩ := Bs ho24
    refine zy h_x hx33 underlying69 sizeOf80 rfl rfl rfl ?_
    intro b34 o35 h36
    obtain ⟨v37, h39, h38⟩ := zbe h36
    refine Vy (zx h39 isAgg80 sizeOf80 rfl) (Mm ?_)
    obtain ⟨x40, hx40, ho24⟩ := Bs ho24
    refine Vc cmp_call (cmp_spec w13 _ hK hA x33 v37 h38 target _ hx40) ?_
    rintro _ w41 ⟨rfl, hk42⟩
    have ht43 := Kp.tr hk42 hA hB; replace hH := Hp.kp hH hk42; replace hr26 := Tt hr26 ht43
    refine Vy (zR rfl rfl) (To ?_)
    obtain ⟨s45, ho44, ho24⟩ := Bs ho24
    refine zu (ι := Unit) (fun (_ : Unit) => [(0, v_x), (1, Ii target), (2, .func (.func cmp_f) cmp_a cmp_c), (8, Ii (x.length : Int)), (9, Ii s45.1), (10, Ii s45.2)]) (fun (_ : Unit) => fun w' => w41 = w') ?_ ?_
    ·refine Cc (fun hc50 => ?_) fun hc50 => ?_
     ·rw [if_pos hc50] at ho44
      refine zo (Mm (Vy (zN rfl rfl) (As ?_)))
      obtain rfl := Oi ho44
      refine zn (fun a ha51 => ?_)
      exact ⟨(), ha51.sb, rfl⟩
     rw [if_neg (nt hc50)] at ho44
     refine zo (Mm (As ?_))
     obtain rfl := Oi ho44
     refine zn (fun a ha52 => ?_)
     exact ⟨(), ha52.sb, rfl⟩
    rintro _ _ rfl a ha49
    obtain rfl := Oi ho24
    exact ⟨A14, ha49.sb, ⟨hH, hr26⟩⟩
   rintro A30 w27 ⟨hH31, hk28⟩ a ha29
   replace hr5 := Tr.trans hr5 hk28; replace hA := hk28.new; replace hH := hH31
   obtain rfl := Oi h17
   exact ⟨(s25.1, s25.2), h18, ⟨A30, ha29.sb, ⟨hH, hr5⟩⟩⟩
  rw [if_neg (nt hc23)] at h17
  obtain rfl := Oi h17
  refine zQ (fun a ha55 => ?_)
  exact ⟨((s12.1, s12.2), A14), ha55.sb, ⟨h18.symm, hH, hr5⟩⟩
 rintro ⟨s4, A10⟩ w7 ⟨rfl, hH11, hk8⟩ a ha9
 rw [Lp.andThen_fin] at hm
 replace h_x := Sl.tr h_x hk8; replace hK := Tr.trans hK hk8; replace hB := Nat.le_trans hB hk8.ex.size; replace hA := hk8.new; replace hH := hH11
 refine C_at (n := ⟨49, [], none⟩) (fun _ _ => rfl) ?_ ha9
 refine zh ?_
 obtain ⟨s58, ho57, hm⟩ := Bs hm
 refine zu (ι := (Nat → Prop)) (fun (A63 : (Nat → Prop)) => [(6, Ii s58.1), (7, .bool s58.2)]) (fun (A63 : (Nat → Prop)) => fun w' => Hp w.heap.size A63 w' ([]) ∧ Tr Dw w.heap.size A10 w7 A63 w') ?_ ?_
 ·have hr59 : Tr Dw w.heap.size A10 w7 A10 w7 := Tr.refl (Dw := Dw) hA
  refine zo (Mm (Mm (Mm (Vy (zR rfl rfl) (Mm ?_)))))
  rcases Be (decide (s4.1 < (x.length : Int))) with hc65 | hc65
  ·rw [if_pos hc65] at ho57
   refine Gf hc65 (Mm (Gf hc65 (Mm (Gf hc65 (Mm (Gf hc65 ?_))))))
   obtain ⟨x66, hx66, ho57⟩ := Bs ho57
   refine zy h_x hx66 underlying69 sizeOf80 rfl rfl rfl ?_
   intro b67 o68 h69
   refine Gf hc65 ?_
   obtain ⟨v70, h72, h71⟩ := zbe h69
   refine Vy (zx h72 isAgg80 sizeOf80 rfl) (Gf hc65 (Mm (Gf hc65 ?_)))
   obtain ⟨x73, hx73, ho57⟩ := Bs ho57
   refine Vc cmp_call (cmp_spec w7 _ hK hA x66 v70 h71 target _ hx73) ?_
   rintro _ w74 ⟨rfl, hk75⟩
   have ht76 := Kp.tr hk75 hA hB; replace hH := Hp.kp hH hk75; replace hr59 := Tt hr59 ht76
   refine Gf hc65 (Vy (ql rfl rfl) (Vy (zF rfl hc65 rfl) (As (As ?_))))
   obtain rfl := Oi ho57
   refine zn (fun a ha77 => ?_)
   exact ⟨A10, ha77.sb, ⟨hH, hr59⟩⟩
  rw [if_neg (nt hc65)] at ho57
  refine Gm hc65 (Gm hc65 (Gm hc65 (Gm hc65 (Gm hc65 (Gm hc65 (Gm hc65 (Gm hc65 (Vy (zG rfl hc65 rfl) (As ?_)))))))))
  refine As ?_
  obtain rfl := Oi ho57
  refine zn (fun a ha78 => ?_)
  exact ⟨A10, ha78.sb, ⟨hH, hr59⟩⟩
 rintro A63 w60 ⟨hH64, hk61⟩ a ha62
 replace hK := Tr.trans hK hk61; replace hA := hk61.new; replace hH := hH64
 refine C_at (n := ⟨49, [], none⟩) (fun _ _ => rfl) ?_ ha62
 obtain rfl := Oi hm
 refine Rt (Res.two results160 rfl rfl) ?_
 exact ⟨rfl, hK.kp⟩
theorem zbL (w : World) {A : Nat → Prop} (hA : ∀ b, w.heap.size ≤ b → A b) (s : zC) (v_s : Value) (h_s : Sl A w v_s s.shifts) (d : Int) {r : Int} (hm : ZL s d = some r) : Ret prog 161 #[.agg #[Ii s.day, v_s], Ii d] w fun v w' => v = Ii r ∧ Kp Dw w w' := by
 unfold ZL at hm
 refine enter func161 rfl ntmps161 rfl ?_
 have hA0 := hA
 obtain ⟨hB, hK, hH⟩ := St (Dw := Dw) hA
 refine Sr ?_
 refine Zy rfl rfl ?_
 intro b3 w4 h5
 have hk7 := h5.kp (Dw := Dw)
 have h6 : El (α := zC) A w4 b3 0 s := h5.el hA ⟨[Ii s.day], _, rfl, rfl, ⟨_, rfl, h_s⟩⟩
 have ht8 := Kp.tr hk7 hA hB; replace hK := Tt hK ht8
 refine As (To ?_)
 refine Sr ?_
 have h9 := JD h6
 refine Fa underlying80 rfl sizeOf3 (Li h9 isAgg3 (Mm ?_))
 refine Vc call55 (ZO w4 s.day d) ?_
 rintro _ _ ⟨rfl, rfl⟩
 refine As (To ?_)
 obtain rfl := Oi hm
 refine Rt (Res.one results161 rfl) ?_
 exact ⟨rfl, hK.kp⟩
theorem zcl (w : World) {A : Nat → Prop} (hA : ∀ b, w.heap.size ≤ b → A b) (c : zg) (v_c0 : Value) (h_c0 : Sl A w v_c0 c.zone.changes) (v_c1 : Value) (h_c1 : Sl A w v_c1 c.week) (v_c2 : Value) (h_c2 : Sl A w v_c2 c.specials) (day : Int) {r : (List zp)} (hm : Qk c day = some r) : Ret prog 144 #[.agg #[Ii c.zone.offset, v_c0, v_c1, v_c2], Ii day] w fun v w' => ∃ s0, v = s0 ∧ Ownd 77 w w' s0 r ∧ Kp Dw w w' := by
 unfold Qk at hm
 refine enter func144 rfl ntmps144 rfl ?_
 have hA0 := hA
 obtain ⟨hB, hK, hH⟩ := St (Dw := Dw) hA
 refine Sr ?_
 refine Zy rfl rfl ?_
 intro b7 w9 h10
 have hk12 := h10.kp (Dw := Dw)
 have h11 : El (α := zg) A w9 b7 0 c := h10.el hA ⟨[Ii c.zone.offset, v_c0], _, rfl, ⟨[Ii c.zone.offset], _, rfl, rfl, ⟨_, rfl, h_c0⟩⟩, ⟨[v_c1], _, rfl, ⟨_, rfl, h_c1⟩, ⟨_, rfl, h_c2⟩⟩⟩
 have ht13 := Kp.tr hk12 hA hB; replace hH := Hp.kp hH hk12
 obtain ⟨hK, hB, hA⟩ := U0 ht13 hK hB
 refine As (To ?_)
 refine Sr ?_
 have h14 := js h11
 refine Fa underlying71 rfl sizeOf69 ?_
 obtain ⟨v15, h16, h17⟩ := El.list h14
 refine Ld h16 isAgg69 (Mm ?_)
 obtain ⟨x20, hx20, hm⟩ := Bs hm
 refine Vc call160 (jh (Dw := Dw) w9 hA c.specials v15 h17 day (fun y31 y32 => ZL y31 y32) 161 #[] #[] call161 (fun w27 A28 ht29 h30 y21 v22 h23 y24 r25 h26 => (zbL (Dw := Dw) w27 h30 y21 v22 h23 y24  h26).mono (fun _ _ h => ⟨h.1, h.2⟩)) hx20) ?_
 rintro _ w33 ⟨rfl, hk34⟩
 have ht35 := Kp.tr hk34 hA hB; replace hH := Hp.kp hH hk34; replace h11 := El.tr h11 ht35
 obtain ⟨hK, hB, hA⟩ := U0 ht35 hK hB
 refine Mm (Vy (zD rfl rfl) (Vy (zD rfl rfl) (As (As (To ?_)))))
 refine zh (Sr (Mm (To ?_)))
 refine Cc (fun hc36 => ?_) fun hc36 => ?_
 ·rw [if_pos hc36] at hm
  refine Sr ?_
  have h37 := js h11
  refine Fa underlying71 rfl sizeOf69 ?_
  obtain ⟨v38, h39, h40⟩ := El.list h37
  refine Ld h39 isAgg69 (Mm ?_)
  obtain ⟨x41, hx41, hm⟩ := Bs hm
  refine zy h40 hx41 underlying69 sizeOf80 rfl rfl rfl ?_
  intro b42 o43 h44
  have h45 := jF h44
  refine Fa underlying80 rfl sizeOf68 ?_
  obtain ⟨v46, h47, h48⟩ := El.list h45
  refine Ld h47 isAgg68 ?_
  obtain ⟨x49, hx49, hm⟩ := Bs hm
  refine Vc call22 (qH (Dw := Dw) w33 hA x41.shifts v46 h48 hx49) ?_
  rintro v50 w52 ⟨_, rfl, h51, hk53⟩
  obtain ⟨A54, ht55, hH56⟩ := Hp.addOwnd (Dw := Dw) hH hB hA hk53 h51
  replace hK := Tt hK ht55; replace hH := hH56
  refine As (To ?_)
  obtain rfl := Oi hm
  refine Rt (Res.one results144 rfl) ?_
  exact ⟨v50, rfl, (Hp.ownd hH (i := 0) rfl), hK.kp⟩
 rw [if_neg (nt hc36)] at hm
 refine Sk ?_
 refine Sr (As (To ?_))
 refine zh (Sr ?_)
 have h57 := zao h11
 refine Fa underlying71 rfl sizeOf68 ?_
 obtain ⟨v58, h59, h60⟩ := El.list h57
 refine Ld h59 isAgg68 (Vy (zA h60 rfl underlying68 rfl) (Mm (To ?_)))
 replace hH : Hp w.heap.size A w33 (obS (α := zp) 77 (.slice none 0 0) ([] : (List zp)) :: []) := Hp.addNil (α := zp) (e := 77) hH
 have hn85 := Sl.le h60
 obtain ⟨o61, ho61, hm⟩ := Bs hm
 refine zu (ι := ((List zp) × Value × (Nat → Prop))) (fun ⟨s62, v68, A70⟩ => [(7, v68)]) (fun ⟨s62, v68, A70⟩ => fun w' => o61 = .fin s62 ∧ Hp w.heap.size A70 w' (obS (α := zp) 77 v68 s62 :: []) ∧ Tr Dw w.heap.size A w33 A70 w') ?_ ?_
 ·refine zl ?_
  refine zS ho61 (fun k64 s72 a w' => ∃ i : (Value × (Nat → Prop)), Has ⟨50, [], none⟩ a ([(1, Ii day), (7, i.1), (26, v58), (27, Ii (c.week.length : Int)), (28, Ii (k64 : Int))]) ∧ Hp w.heap.size i.2 w' (obS (α := zp) 77 i.1 s72 :: []) ∧ Tr Dw w.heap.size A w33 i.2 w') (fun a ha => ⟨(.slice none 0 0, A), ha.sb, ⟨hH, Tr.refl (Dw := Dw) hA⟩⟩) ?_
  rintro K k64 s72 a w73 ⟨⟨v74, A76⟩, ha144, hH77, hr63⟩ hle81 K84 h83
  refine C_of ?_ ha144
  replace h60 := Sl.tr h60 hr63; replace hB := Bx hB hr63; replace hA := hr63.new; replace hH := hH77
  refine Sr (Vy (zR rfl rfl) (To ?_))
  refine zh ?_
  refine Cc (fun hc86 => ?_) fun hc86 => ?_
  ·have hlt82 := zL hc86
   obtain ⟨x78, h79, h80⟩ := K84 hlt82
   refine Sk ?_
   refine zh ?_
   obtain ⟨s88, ho87, h79⟩ := Bs h79
   refine zu (ι := (Value × (Nat → Prop))) (fun ⟨v90, A95⟩ => [(1, Ii day), (7, v90), (26, v58), (27, Ii (c.week.length : Int)), (28, Ii (k64 : Int))]) (fun ⟨v90, A95⟩ => fun w' => Hp w.heap.size A95 w' (obS (α := zp) 77 v90 s88 :: []) ∧ Tr Dw w.heap.size A76 w73 A95 w') ?_ ?_
   ·have hr89 : Tr Dw w.heap.size A76 w73 A76 w73 := Tr.refl (Dw := Dw) hA
    refine zl (Sr ?_)
    obtain ⟨x97, hx97, ho87⟩ := Bs ho87
    refine zy h60 hx97 underlying68 sizeOf77 rfl rfl rfl ?_
    intro b98 o99 h100
    obtain ⟨h101, _⟩ := zae h100
    refine Vy (zx h101 isAgg77 sizeOf77 rfl) ?_
    refine Zf zeroValue77 rfl ?_
    intro b102 w103 h104
    refine Sn h104 sizeOf77 ?_
    intro w105 h106
    have hk108 := h106.kp (Dw := Dw)
    have h107 : El (α := zp) A76 w105 b102 0 x97 := h106.el hA ⟨[Ii x97.day], _, rfl, rfl, ⟨[Ii x97.from_], _, rfl, rfl, rfl⟩⟩
    have ht109 := Kp.tr hk108 hA hB; replace hH := Hp.kp hH hk108; replace hr89 := Tt hr89 ht109; replace hB := Bx hB ht109; replace hA := ht109.new
    refine To ?_
    refine zh ?_
    refine ZR (Dw := Dw) zH (by kernel_rfl) ?_
    have h110 := Ju h107
    refine Qf underlying77 rfl sizeOf3 (Qi h110 isAgg3 (Qm (Qm ?_)))
    obtain ⟨x111, hx111, ho87⟩ := Bs ho87
    refine Qo (Ii x111) call145 rfl rfl rfl rfl (fun w' hw' => (zcK w' day 7 hx111).mono (fun _ _ h => ⟨h.1, h.2 ▸ hw'⟩)) ?_
    refine Qv (fun w' hw' => zfi rfl rfl) (Qv (fun w' hw' => Qw rfl rfl) (Qv (fun w' hw' => ql rfl rfl) ?_))
    refine jR (fun _ _ => rfl) (fun w112 hk113 => ?_)
    have ht114 := Kp.tr hk113 hA hB; replace hH := Hp.kp hH hk113; replace h107 := El.tr h107 ht114; replace hr89 := Tt hr89 ht114; replace hB := Bx hB ht114; replace hA := ht114.new
    obtain ⟨s116, ho115, ho87⟩ := Bs ho87
    refine zu (ι := (Value × (Nat → Prop))) (fun ⟨v118, A123⟩ => [(1, Ii day), (7, v118), (26, v58), (27, Ii (c.week.length : Int)), (28, Ii (k64 : Int))]) (fun ⟨v118, A123⟩ => fun w' => Hp w.heap.size A123 w' (obS (α := zp) 77 v118 s116 :: []) ∧ Tr Dw w.heap.size A76 w112 A123 w') ?_ ?_
    ·have hr117 : Tr Dw w.heap.size A76 w112 A76 w112 := Tr.refl (Dw := Dw) hA
     refine Cc (fun hc125 => ?_) fun hc125 => ?_
     ·rw [if_pos hc125] at ho115
      refine zo (Mm ?_)
      have h126 := QV h107
      refine Fa underlying77 rfl sizeOf3 (Li h126 isAgg3 ?_)
      have h127 := jB h107
      refine Fa underlying77 rfl sizeOf3 (Li h127 isAgg3 ?_)
      refine Vy (zaz underlying77 zeroValue77 (zhd _ underlying77) rfl (by with_unfolding_all rfl)) ?_
      refine zX (Dw := Dw) (cells := #[Ii 0, Ii x97.from_, Ii x97.to_]) (l := ([(⟨0, x97.from_, x97.to_⟩ : zp)] : List zp)) (len := 1) underlying68 sizeOf77 zeroValue77 rfl (by kernel_rfl) (show (1 * 3 : Nat) ≠ 0 by decide) (show (1 * 3 : Nat) ≤ 2 ^ 24 by decide) hA ⟨[Ii 0, Ii x97.from_, Ii x97.to_], _, rfl, ⟨[Ii 0], _, rfl, rfl, ⟨[Ii x97.from_], _, rfl, rfl, rfl⟩⟩, rfl⟩ rfl rfl ?_
      intro v128 w129 hk131 h130
      have ht132 := Kp.tr hk131 hA hB; replace hH := Hp.kp hH hk131; replace hr117 := Tt hr117 ht132; replace hB := Bx hB ht132; replace hA := ht132.new
      obtain ⟨x133, hx133, ho115⟩ := Bs ho115
      refine Zv (Dw := Dw) (e := 77) (v := v74) (l := s72) (ti := t77) (bytes := 24) (lim := 5864062014805) hH (i := 0) rfl h130 hx133 underlying68 zeO rfl rfl rfl rfl (by decide) (by decide) (by decide) hB hA rfl rfl rfl ?_
      intro v134 w135 A136 hH137 ht138
      replace hr117 := Tt hr117 ht138; replace hH := hH137
      refine As ?_
      obtain rfl := Oi ho115
      refine zn (fun a ha139 => ?_)
      exact ⟨(v134, A136), ha139.sb, ⟨hH, hr117⟩⟩
     rw [if_neg (nt hc125)] at ho115
     obtain rfl := Oi ho115
     refine qL (fun a ha140 => ?_)
     exact ⟨(v74, A76), ha140.sb, ⟨hH, hr117⟩⟩
    rintro ⟨v118, A123⟩ w120 ⟨hH124, hk121⟩ a ha122
    replace hr89 := Tr.trans hr89 hk121; replace hA := hk121.new; replace hH := hH124
    obtain rfl := Oi ho87
    exact ⟨(v118, A123), ha122.sb, ⟨hH, hr89⟩⟩
   rintro ⟨v90, A95⟩ w92 ⟨hH96, hk93⟩ a ha94
   replace hr63 := Tr.trans hr63 hk93; replace hA := hk93.new; replace hH := hH96
   refine C_at (n := ⟨50, [], none⟩) (fun _ _ => rfl) ?_ ha94
   refine zo (Vy (zN rfl rfl) (Mm ?_))
   obtain rfl := Oi h79
   refine zn (fun a ha142 => ?_)
   exact ⟨s88, hlt82, h80, ⟨(v90, A95), ha142.sub ⟨rfl, rfl, rfl, rfl, Ws hlt82 hn85, trivial⟩, ⟨hH, hr63⟩⟩⟩
  refine zQ (fun a ha143 => ?_)
  exact ⟨(s72, v74, A76), ha143.sb, ⟨(h83 (zK hle81 hc86)).symm, hH, hr63⟩⟩
 rintro ⟨s62, v68, A70⟩ w65 ⟨rfl, hH71, hk66⟩ a ha67
 rw [Lp.andThen_fin] at hm
 replace hK := Tr.trans hK hk66; replace hA := hk66.new; replace hH := hH71
 refine C_at (n := ⟨50, [], none⟩) (fun _ _ => rfl) ?_ ha67
 refine Sr (Mm (As (To ?_)))
 obtain rfl := Oi hm
 refine Rt (Res.one results144 rfl) ?_
 exact ⟨v68, rfl, (Hp.ownd hH (i := 0) rfl), hK.kp⟩
theorem zbI (w : World) {A : Nat → Prop} {B : Nat} (hB : B ≤ w.heap.size) (hA : ∀ b, w.heap.size ≤ b → A b) (day : Int) (p1 : zg) (b_p1 : Nat) (h_p1 : El A w b_p1 0 p1) (p2 : zO) (b_p2 : Nat) (h_p2 : El A w b_p2 0 p2) (p3 : Int) (b_p3 : Nat) (h_p3 : El A w b_p3 0 p3) (p4 : Int) (b_p4 : Nat) (h_p4 : El A w b_p4 0 p4) {p5_S : Type} (p5 : zr → p5_S → Option (Bool × p5_S)) (p5_Y : p5_S → Ob) (p5_v : Value) (p5_one : p5_v.cells.toList = [p5_v]) (p5_s : p5_S) (p5_spec : ∀ (w2 : World) (A2 : Nat → Prop) (L2 : List Ob) (x : zr) (z : p5_S) (b : Bool) (z2 : p5_S), B ≤ w2.heap.size → (∀ b, w2.heap.size ≤ b → A2 b) → Tr Dw B A w A2 w2 → Hp B A2 w2 (p5_Y z :: L2) → p5 x z = some (b, z2) → CallV prog p5_v [.agg #[Ii x.from_, Ii x.to_]] w2 fun v w3 => v = .bool b ∧ ∃ A3, Tr Dw B A2 w2 A3 w3 ∧ Hp B A3 w3 (p5_Y z2 :: L2)) (b_p5 : Nat) (h_p5 : Vb A w b_p5 p5_v) {L : List Ob} (hH : Hp B A w (p5_Y p5_s :: L)) {r : (Bool × p5_S)} (hm : qj day p1 p2 p3 p4 p5 p5_s = some r) : Ret prog 143 #[Ii day, Pt b_p1, Pt b_p2, Pt b_p3, Pt b_p4, Pt b_p5] w fun v w' => ∃ A1 : Nat → Prop, v = .bool r.1 ∧ Hp B A1 w' (p5_Y r.2 :: L) ∧ Tr Dw B A w A1 w' := by
 unfold qj at hm
 refine enter func143 rfl ntmps143 rfl ?_
 have hK : Tr Dw B A w A w := Tr.refl (Dw := Dw) hA
 refine Sr (As (To ?_))
 refine zh (Sr ?_)
 obtain ⟨v1, v3, v5, h7, h2, h4, h6⟩ := Zg h_p1
 refine Vy (zx h7 isAgg71 sizeOf71 rfl) (Mm ?_)
 obtain ⟨x8, hx8, hm⟩ := Bs hm
 refine Vc call144 (zcl (Dw := Dw) w hA p1 v1 h2 v3 h4 v5 h6 day hx8) ?_
 rintro v9 w11 ⟨_, rfl, h10, hk12⟩
 obtain ⟨A13, ht14, hH15⟩ := Hp.addOwnd (Dw := Dw) hH hB hA hk12 h10
 replace h_p2 := El.tr h_p2 ht14; replace h_p3 := El.tr h_p3 ht14; replace h_p4 := El.tr h_p4 ht14
 replace h_p5 := Vb.tr (Dw := Dw) h_p5 ht14
 obtain ⟨hK, hB, hA⟩ := U0 ht14 hK hB
 replace hH := hH15
 refine Vy (zA (Hp.any (α := zp) (e := 77) (v := v9) (l := x8) hH (i := 0) rfl) rfl underlying68 rfl) (Mm (To ?_))
 have hn36 := Hp.le (α := zp) (e := 77) (v := v9) (l := x8) hH (i := 0) rfl
 obtain ⟨o16, ho16, hm⟩ := Bs hm
 refine zu (ι := (p5_S × (Nat → Prop))) (fun ⟨s17, A23⟩ => []) (fun ⟨s17, A23⟩ => fun w' => o16 = .fin s17 ∧ Hp B A23 w' (obS (α := zp) 77 v9 x8 :: p5_Y s17 :: L) ∧ Tr Dw B A13 w11 A23 w') ?_ ?_
 ·refine zl ?_
  refine zS ho16 (fun k19 s25 a w' => ∃ i : (Nat → Prop), Has ⟨50, [], none⟩ a ([(0, Ii day), (2, Pt b_p2), (3, Pt b_p3), (4, Pt b_p4), (5, Pt b_p5), (14, v9), (15, Ii (x8.length : Int)), (16, Ii (k19 : Int))]) ∧ Hp B i w' (obS (α := zp) 77 v9 x8 :: p5_Y s25 :: L) ∧ Tr Dw B A13 w11 i w') (fun a ha => ⟨A13, ha.sb, ⟨hH, Tr.refl (Dw := Dw) hA⟩⟩) ?_
  rintro K k19 s25 a w26 ⟨A27, ha85, hH28, hr18⟩ hle32 K35 h34
  refine C_of ?_ ha85
  replace h_p2 := El.tr h_p2 hr18; replace h_p3 := El.tr h_p3 hr18; replace h_p4 := El.tr h_p4 hr18
  replace h_p5 := Vb.tr (Dw := Dw) h_p5 hr18
  obtain ⟨hK, hB, hA⟩ := U0 hr18 hK hB
  replace hH := hH28
  refine Sr (Vy (zR rfl rfl) (To ?_))
  refine zh ?_
  refine Cc (fun hc37 => ?_) fun hc37 => ?_
  ·have hlt33 := zL hc37
   obtain ⟨x29, h30, h31⟩ := K35 hlt33
   refine Sk ?_
   refine zh (zl (Sr ?_))
   obtain ⟨x38, hx38, h30⟩ := Bs h30
   refine ZQ (α := zp) (e := 77) (v := v9) (l := x8) hH (i := 0) rfl hx38 underlying68 sizeOf77 rfl rfl rfl ?_
   intro b39 o40 h41 hl42
   obtain ⟨h43, _⟩ := zae h41
   refine Vy (zx h43 isAgg77 sizeOf77 rfl) ?_
   refine Zf zeroValue77 rfl ?_
   intro b44 w45 h46
   refine Sn h46 sizeOf77 ?_
   intro w47 h48
   have hk50 := h48.kp (Dw := Dw)
   have h49 : El (α := zp) A27 w47 b44 0 x38 := h48.el hA ⟨[Ii x38.day], _, rfl, rfl, ⟨[Ii x38.from_], _, rfl, rfl, rfl⟩⟩
   have ht51 := Kp.tr hk50 hA hB; replace hH := Hp.kp hH hk50; replace h_p2 := El.tr h_p2 ht51; replace h_p3 := El.tr h_p3 ht51; replace h_p4 := El.tr h_p4 ht51
   replace h_p5 := Vb.tr (Dw := Dw) h_p5 ht51
   replace hr18 := Tt hr18 ht51
   obtain ⟨hK, hB, hA⟩ := U0 ht51 hK hB
   refine To ?_
   refine Sr (Mm (Vy (zfi rfl rfl) ?_))
   have h52 := zbA h_p2
   refine Fa underlying204 rfl sizeOf3 (Li h52 isAgg3 (Vy (Qw rfl rfl) (As (To ?_))))
   refine Sr (Li h_p3 isAgg3 (Mm ?_))
   have h53 := QV h49
   refine Fa underlying77 rfl sizeOf3 (Li h53 isAgg3 (Vy (zN rfl rfl) (Vy (zeh rfl rfl) (Li h_p4 isAgg3 (Mm ?_)))))
   have h54 := jB h49
   refine Fa underlying77 rfl sizeOf3 (Li h54 isAgg3 (Vy (zN rfl rfl) (Vy (zjU rfl rfl) ?_)))
   refine Vy (zaz underlying189 zeroValue189 (zdl _ underlying189) rfl (by with_unfolding_all rfl)) ?_
   refine Zf zeroValue189 rfl ?_
   intro b55 w56 h57
   refine Sn h57 sizeOf189 ?_
   intro w58 h59
   have hk61 := h59.kp (Dw := Dw)
   have h60 : El (α := zr) A27 w58 b55 0 (⟨(if p3 < w64 ((w64 ((w64 (day * 1440)) - p2.offset)) + x38.from_) then w64 ((w64 ((w64 (day * 1440)) - p2.offset)) + x38.from_) else p3), (if w64 ((w64 ((w64 (day * 1440)) - p2.offset)) + x38.to_) < p4 then w64 ((w64 ((w64 (day * 1440)) - p2.offset)) + x38.to_) else p4)⟩ : zr) := h59.el hA ⟨[Ii (if p3 < w64 ((w64 ((w64 (day * 1440)) - p2.offset)) + x38.from_) then w64 ((w64 ((w64 (day * 1440)) - p2.offset)) + x38.from_) else p3)], _, rfl, rfl, rfl⟩
   have ht62 := Kp.tr hk61 hA hB; replace hH := Hp.kp hH hk61
   replace h_p5 := Vb.tr (Dw := Dw) h_p5 ht62
   replace hr18 := Tt hr18 ht62
   obtain ⟨hK, hB, hA⟩ := U0 ht62 hK hB
   refine To ?_
   refine zh ?_
   obtain ⟨s64, ho63, h30⟩ := Bs h30
   refine zu (ι := (Nat → Prop)) (fun (A69 : (Nat → Prop)) => [(0, Ii day), (2, Pt b_p2), (3, Pt b_p3), (4, Pt b_p4), (5, Pt b_p5), (14, v9), (15, Ii (x8.length : Int)), (16, Ii (k19 : Int)), (48, .bool s64.1)]) (fun (A69 : (Nat → Prop)) => fun w' => Hp B A69 w' (obS (α := zp) 77 v9 x8 :: p5_Y s64.2 :: L) ∧ Tr Dw B A27 w58 A69 w') ?_ ?_
   ·have hr65 : Tr Dw B A27 w58 A27 w58 := Tr.refl (Dw := Dw) hA
    refine zo ?_
    have h71 := zat h60
    refine Fa underlying189 rfl sizeOf3 (Li h71 isAgg3 ?_)
    have h72 := zbz h60
    refine Fa underlying189 rfl sizeOf3 (Li h72 isAgg3 (Vy (zR rfl rfl) (Mm ?_)))
    rcases Be (decide (((⟨(if p3 < w64 ((w64 ((w64 (day * 1440)) - p2.offset)) + x38.from_) then w64 ((w64 ((w64 (day * 1440)) - p2.offset)) + x38.from_) else p3), (if w64 ((w64 ((w64 (day * 1440)) - p2.offset)) + x38.to_) < p4 then w64 ((w64 ((w64 (day * 1440)) - p2.offset)) + x38.to_) else p4)⟩ : zr).from_) < ((⟨(if p3 < w64 ((w64 ((w64 (day * 1440)) - p2.offset)) + x38.from_) then w64 ((w64 ((w64 (day * 1440)) - p2.offset)) + x38.from_) else p3), (if w64 ((w64 ((w64 (day * 1440)) - p2.offset)) + x38.to_) < p4 then w64 ((w64 ((w64 (day * 1440)) - p2.offset)) + x38.to_) else p4)⟩ : zr).to_))) with hc73 | hc73
    ·rw [if_pos hc73] at ho63
     refine Gf hc73 (Vy (qn h_p5.2.2 isAgg187 rfl) (Gf hc73 ?_))
     obtain ⟨h74, _⟩ := zcJ h60
     refine Vy (zx h74 isAgg189 sizeOf189 rfl) (Gf hc73 ?_)
     obtain ⟨x75, hx75, ho63⟩ := Bs ho63
     replace hH := Hf 1 hH
     refine zfR rfl rfl rfl (p5_spec w58 _ _ (⟨(if p3 < w64 ((w64 ((w64 (day * 1440)) - p2.offset)) + x38.from_) then w64 ((w64 ((w64 (day * 1440)) - p2.offset)) + x38.from_) else p3), (if w64 ((w64 ((w64 (day * 1440)) - p2.offset)) + x38.to_) < p4 then w64 ((w64 ((w64 (day * 1440)) - p2.offset)) + x38.to_) else p4)⟩ : zr) _ x75.1 x75.2 hB hA hK hH hx75) ?_
     rintro _ w76 ⟨rfl, A77, ht79, hH78⟩
     replace h_p5 := Vb.tr (Dw := Dw) h_p5 ht79
     replace hr65 := Tt hr65 ht79; replace hH := hH78
     refine Gf hc73 (Vy (Zs rfl) (Vy (zF rfl hc73 rfl) ?_))
     obtain rfl := Oi ho63
     refine zn (fun a ha80 => ?_)
     replace hH := Hf 1 hH
     exact ⟨A77, ha80.sb, ⟨hH, hr65⟩⟩
    rw [if_neg (nt hc73)] at ho63
    refine Gm hc73 (Gm hc73 (Gm hc73 (Gm hc73 (Vy (zG rfl hc73 rfl) ?_))))
    obtain rfl := Oi ho63
    refine zn (fun a ha81 => ?_)
    exact ⟨A27, ha81.sb, ⟨hH, hr65⟩⟩
   rintro A69 w66 ⟨hH70, hk67⟩ a ha68
   replace h_p5 := Vb.tr (Dw := Dw) h_p5 hk67
   replace hK := Tr.trans hK hk67; replace hr18 := Tr.trans hr18 hk67; replace hA := hk67.new; replace hH := hH70
   refine C_at (n := ⟨50, [], none⟩) (fun _ _ => rfl) ?_ ha68
   refine Cc (fun hc82 => ?_) fun hc82 => ?_
   ·rw [if_pos hc82] at h30
    refine Sr (As (To ?_))
    obtain rfl := Oi h30
    obtain rfl := (h31 : Lp.rt _ = _)
    rw [Lp.andThen_rt] at hm
    obtain rfl := Oi hm
    replace hH := Hd 1 (Hf 1 hH)
    refine Rt (Res.one results143 rfl) ?_
    exact ⟨A69, rfl, hH, hK⟩
   rw [if_neg (nt hc82)] at h30
   refine Sk ?_
   refine zo (Vy (zN rfl rfl) (Mm ?_))
   obtain rfl := Oi h30
   refine zn (fun a ha83 => ?_)
   exact ⟨s64.2, hlt33, h31, ⟨A69, ha83.sub ⟨rfl, rfl, rfl, rfl, rfl, rfl, rfl, Ws hlt33 hn36, trivial⟩, ⟨hH, hr18⟩⟩⟩
  refine zQ (fun a ha84 => ?_)
  exact ⟨(s25, A27), ha84.sub trivial, ⟨(h34 (zK hle32 hc37)).symm, hH, hr18⟩⟩
 rintro ⟨s17, A23⟩ w20 ⟨rfl, hH24, hk21⟩ a ha22
 rw [Lp.andThen_fin] at hm
 replace hK := Tr.trans hK hk21; replace hA := hk21.new; replace hH := hH24
 refine C_at (n := ⟨50, [], none⟩) (fun _ _ => rfl) ?_ ha22
 refine Sr (As (To ?_))
 obtain rfl := Oi hm
 replace hH := Hd 1 (Hf 1 hH)
 refine Rt (Res.one results143 rfl) ?_
 exact ⟨A23, rfl, hH, hK⟩
theorem zck (w : World) {A : Nat → Prop} {B : Nat} (hB : B ≤ w.heap.size) (hA : ∀ b, w.heap.size ≤ b → A b) {yield_S : Type} (yield : zr → yield_S → Option (Bool × yield_S)) (yield_Y : yield_S → Ob) (yield_v : Value) (yield_one : yield_v.cells.toList = [yield_v]) (yield_s : yield_S) (yield_spec : ∀ (w2 : World) (A2 : Nat → Prop) (L2 : List Ob) (x : zr) (z : yield_S) (b : Bool) (z2 : yield_S), B ≤ w2.heap.size → (∀ b, w2.heap.size ≤ b → A2 b) → Tr Dw B A w A2 w2 → Hp B A2 w2 (yield_Y z :: L2) → yield x z = some (b, z2) → CallV prog yield_v [.agg #[Ii x.from_, Ii x.to_]] w2 fun v w3 => v = .bool b ∧ ∃ A3, Tr Dw B A2 w2 A3 w3 ∧ Hp B A3 w3 (yield_Y z2 :: L2)) (p1 : zg) (b_p1 : Nat) (h_p1 : El A w b_p1 0 p1) (p2 : Int) (b_p2 : Nat) (h_p2 : El A w b_p2 0 p2) (p3 : Int) (b_p3 : Nat) (h_p3 : El A w b_p3 0 p3) {L : List Ob} (hH : Hp B A w (yield_Y yield_s :: L)) {r : yield_S} (hm : Qq yield yield_s p1 p2 p3 = some r) : Ret prog 141 #[yield_v, Pt b_p1, Pt b_p2, Pt b_p3] w fun v w' => ∃ A1 : Nat → Prop, v = .tuple #[] ∧ Hp B A1 w' (yield_Y r :: L) ∧ Tr Dw B A w A1 w' := by
 unfold Qq at hm
 refine enter func141 rfl ntmps141 rfl ?_
 have hK : Tr Dw B A w A w := Tr.refl (Dw := Dw) hA
 refine Sr ?_
 refine Zy rfl rfl ?_
 intro b1 w2 h3
 have hk4 := h3.kp (Dw := Dw)
 have h5 : Vb A w2 b1 yield_v := h3.vb hA yield_one
 have ht6 := Kp.tr hk4 hA hB; replace hH := Hp.kp hH hk4; replace h_p1 := El.tr h_p1 ht6; replace h_p2 := El.tr h_p2 ht6; replace h_p3 := El.tr h_p3 ht6
 obtain ⟨hK, hB, hA⟩ := U0 ht6 hK hB
 refine To ?_
 refine Sr ?_
 have h7 := zbG h_p1
 refine Fa underlying71 rfl sizeOf67 ?_
 obtain ⟨v8, h10, h9⟩ := zeL h7
 refine Vy (zx h10 isAgg67 sizeOf67 rfl) ?_
 obtain ⟨x11, hx11, hm⟩ := Bs hm
 refine Vc call142 (zeZ (Dw := Dw) w2 hA p1.zone v8 h9 hx11) ?_
 rintro v12 w14 ⟨_, rfl, h13, hk15⟩
 obtain ⟨A16, ht17, hH18⟩ := Hp.addOwnd (Dw := Dw) hH hB hA hk15 h13
 replace h_p1 := El.tr h_p1 ht17; replace h_p2 := El.tr h_p2 ht17; replace h_p3 := El.tr h_p3 ht17
 replace h5 := Vb.tr (Dw := Dw) h5 ht17
 obtain ⟨hK, hB, hA⟩ := U0 ht17 hK hB
 replace hH := hH18
 refine Vy (zA (Hp.any (α := zO) (e := 204) (v := v12) (l := x11) hH (i := 0) rfl) rfl underlying201 rfl) (Mm (To ?_))
 have hn39 := Hp.le (α := zO) (e := 204) (v := v12) (l := x11) hH (i := 0) rfl
 obtain ⟨o19, ho19, hm⟩ := Bs hm
 refine zu (ι := (yield_S × (Nat → Prop))) (fun ⟨s20, A26⟩ => []) (fun ⟨s20, A26⟩ => fun w' => o19 = .fin s20 ∧ Hp B A26 w' (obS (α := zO) 204 v12 x11 :: yield_Y s20 :: L) ∧ Tr Dw B A16 w14 A26 w') ?_ ?_
 ·refine zl ?_
  refine zS ho19 (fun k22 s28 a w' => ∃ i : (Nat → Prop), Has ⟨52, [], none⟩ a ([(1, Pt b_p1), (2, Pt b_p2), (3, Pt b_p3), (4, Pt b1), (13, v12), (14, Ii (x11.length : Int)), (15, Ii (k22 : Int))]) ∧ Hp B i w' (obS (α := zO) 204 v12 x11 :: yield_Y s28 :: L) ∧ Tr Dw B A16 w14 i w') (fun a ha => ⟨A16, ha.sb, ⟨hH, Tr.refl (Dw := Dw) hA⟩⟩) ?_
  rintro K k22 s28 a w29 ⟨A30, ha119, hH31, hr21⟩ hle35 K38 h37
  refine C_of ?_ ha119
  replace h_p1 := El.tr h_p1 hr21; replace h_p2 := El.tr h_p2 hr21; replace h_p3 := El.tr h_p3 hr21
  replace h5 := Vb.tr (Dw := Dw) h5 hr21
  obtain ⟨hK, hB, hA⟩ := U0 hr21 hK hB
  replace hH := hH31
  refine Sr (Vy (zR rfl rfl) (To ?_))
  refine zh ?_
  refine Cc (fun hc40 => ?_) fun hc40 => ?_
  ·have hlt36 := zL hc40
   obtain ⟨x32, h33, h34⟩ := K38 hlt36
   refine Sk ?_
   refine zh ?_
   obtain ⟨o41, ho41, h33⟩ := Bs h33
   refine zu (ι := (yield_S × (Nat → Prop))) (fun ⟨s42, A47⟩ => [(1, Pt b_p1), (2, Pt b_p2), (3, Pt b_p3), (4, Pt b1), (13, v12), (14, Ii (x11.length : Int)), (15, Ii (k22 : Int))]) (fun ⟨s42, A47⟩ => fun w' => o41 = .fin s42 ∧ Hp B A47 w' (obS (α := zO) 204 v12 x11 :: yield_Y s42 :: L) ∧ Tr Dw B A30 w29 A47 w') ?_ ?_
   ·have hr43 : Tr Dw B A30 w29 A30 w29 := Tr.refl (Dw := Dw) hA
    refine zl (Sr ?_)
    obtain ⟨x49, hx49, ho41⟩ := Bs ho41
    refine ZQ (α := zO) (e := 204) (v := v12) (l := x11) hH (i := 0) rfl hx49 underlying201 sizeOf204 rfl rfl rfl ?_
    intro b50 o51 h52 hl53
    obtain ⟨h54, _⟩ := zis h52
    refine Vy (zx h54 isAgg204 sizeOf204 rfl) ?_
    refine Zf zeroValue204 rfl ?_
    intro b55 w56 h57
    refine Sn h57 sizeOf204 ?_
    intro w58 h59
    have hk61 := h59.kp (Dw := Dw)
    have h60 : El (α := zO) A30 w58 b55 0 x49 := h59.el hA ⟨[Ii x49.from_], _, rfl, rfl, ⟨[Ii x49.to_], _, rfl, rfl, rfl⟩⟩
    have ht62 := Kp.tr hk61 hA hB; replace hH := Hp.kp hH hk61; replace h_p1 := El.tr h_p1 ht62; replace h_p2 := El.tr h_p2 ht62; replace h_p3 := El.tr h_p3 ht62
    replace h5 := Vb.tr (Dw := Dw) h5 ht62
    replace hr43 := Tt hr43 ht62
    obtain ⟨hK, hB, hA⟩ := U0 ht62 hK hB
    refine To ?_
    refine zh ?_
    refine zaL (Dw := Dw) (B := B) (k := 8) [(7, 3, Ii 0), (8, 3, Ii 0)] [(22, 3), (26, 7)] zH (by kernel_rfl) rfl ⟨⟨_, _, _, rfl, by simp⟩, zeroValue3, ⟨⟨_, _, _, rfl, by simp⟩, zeroValue3, trivial⟩⟩ ⟨⟨_, _, _, rfl, by decide, by decide⟩, by decide, rfl, sizeOf3, ⟨⟨_, _, _, rfl, by decide, by decide⟩, by decide, rfl, sizeOf3, trivial⟩⟩ rfl rfl (by decide) hH hB hA ?_
    simp only [List.take]
    refine Qi h_p2 isAgg3 ?_
    have h70 := zgT h60
    refine Qf underlying204 rfl sizeOf3 (Qi h70 isAgg3 (Qv (fun w' hw' => zeh rfl rfl) (Qi h_p3 isAgg3 ?_)))
    have h71 := zdN h60
    refine Qf underlying204 rfl sizeOf3 (Qi h71 isAgg3 (Qv (fun w' hw' => zjU rfl rfl) ?_))
    refine ZK fun a ha => ⟨_, [Ii (if p2 < x49.from_ then x49.from_ else p2), Ii (if x49.to_ < p3 then x49.to_ else p3)], ha, rfl, rfl, ⟨rfl, (by simp [Value.cells, Value.oneCell']), ⟨rfl, (by simp [Value.cells, Value.oneCell']), trivial⟩⟩, fun b63 w65 A66 hH67 ht68 a ha69 => ?_⟩
    replace h_p1 := El.tr h_p1 ht68
    replace h5 := Vb.tr (Dw := Dw) h5 ht68
    replace h60 := El.tr h60 ht68; replace hr43 := Tt hr43 ht68
    obtain ⟨hK, hB, hA⟩ := U0 ht68 hK hB
    replace hH := hH67
    obtain ⟨A72, ht73, h74, hH75⟩ := Hp.freezeC (Dw := Dw) (α := Int) (x := (if p2 < x49.from_ then x49.from_ else p2)) hH (i := 0) rfl hA (by exact rfl)
    replace h_p1 := El.tr h_p1 ht73
    replace h5 := Vb.tr (Dw := Dw) h5 ht73
    replace h60 := El.tr h60 ht73; replace hr43 := Tt hr43 ht73
    obtain ⟨hK, hB, hA⟩ := U0 ht73 hK hB
    replace hH := hH75
    obtain ⟨A76, ht77, h78, hH79⟩ := Hp.freezeC (Dw := Dw) (α := Int) (x := (if x49.to_ < p3 then x49.to_ else p3)) hH (i := 0) rfl hA (by exact rfl)
    replace h_p1 := El.tr h_p1 ht77
    replace h5 := Vb.tr (Dw := Dw) h5 ht77
    replace h60 := El.tr h60 ht77; replace h74 := El.tr h74 ht77; replace hr43 := Tt hr43 ht77
    obtain ⟨hK, hB, hA⟩ := U0 ht77 hK hB
    replace hH := hH79
    refine C_at (n := ⟨52, [], none⟩) (fun _ _ => rfl) ?_ ha69
    refine Sr (Vy (qk rfl rfl) (As (To ?_)))
    refine zh (Sr (Li h74 isAgg3 (Li h78 isAgg3 (Vy (Qz rfl rfl) (To ?_)))))
    refine Cc (fun hc80 => ?_) fun hc80 => ?_
    ·rw [if_pos hc80] at ho41
     obtain rfl := Oi ho41
     refine zQ (fun a ha81 => ?_)
     exact ⟨(s28, A76), ha81.sb, ⟨rfl, hH, hr43⟩⟩
    rw [if_neg (nt hc80)] at ho41
    refine Sk ?_
    refine Sr (Li h74 isAgg3 ?_)
    have h82 := zbA h60
    refine Fa underlying204 rfl sizeOf3 (Li h82 isAgg3 (Vy (zN rfl rfl) ?_))
    obtain ⟨x83, hx83, ho41⟩ := Bs ho41
    refine Vc call145 (zcK w65 (w64 ((if p2 < x49.from_ then x49.from_ else p2) + x49.offset)) 1440 hx83) ?_
    rintro _ _ ⟨rfl, rfl⟩
    refine Vy (Qw rfl rfl) (As (To ?_))
    obtain ⟨o84, ho84, ho41⟩ := Bs ho41
    refine zu (ι := ((Int × yield_S) × (Nat → Prop))) (fun ⟨s85, A91⟩ => [(1, Pt b_p1), (2, Pt b_p2), (3, Pt b_p3), (4, Pt b1), (13, v12), (14, Ii (x11.length : Int)), (15, Ii (k22 : Int))]) (fun ⟨s85, A91⟩ => fun w' => o84 = .fin s85 ∧ Hp B A91 w' (obS (α := zO) 204 v12 x11 :: yield_Y s85.2 :: L) ∧ Tr Dw B A76 w65 A91 w') ?_ ?_
    ·refine zl ?_
     refine zbd ho84 (fun s93 a w' => ∃ i : (Nat → Prop), Has ⟨52, [], none⟩ a ([(1, Pt b_p1), (2, Pt b_p2), (3, Pt b_p3), (4, Pt b1), (6, Pt b55), (8, Pt (b63 1)), (9, .func (.func 143) #[] #[Pt b_p1, Pt b55, Pt (b63 0), Pt (b63 1), Pt b1]), (10, Ii s93.1), (13, v12), (14, Ii (x11.length : Int)), (15, Ii (k22 : Int))]) ∧ Hp B i w' (obS (α := zO) 204 v12 x11 :: yield_Y s93.2 :: L) ∧ Tr Dw B A76 w65 i w') (fun a ha => ⟨A76, ha.sb, ⟨hH, Tr.refl (Dw := Dw) hA⟩⟩) ?_
     rintro K s93 a w94 ⟨A95, ha115, hH96, hr86⟩ K103
     refine C_of ?_ ha115
     replace h_p1 := El.tr h_p1 hr86
     replace h5 := Vb.tr (Dw := Dw) h5 hr86
     replace h60 := El.tr h60 hr86; replace h78 := El.tr h78 hr86; replace h74 := El.tr h74 hr86
     obtain ⟨hK, hB, hA⟩ := U0 hr86 hK hB
     replace hH := hH96
     obtain ⟨x97, h98, h99⟩ := K103
     refine zh (Sr (Mm (Li h78 isAgg3 (Vy (Qw rfl rfl) ?_))))
     have h104 := zbA h60
     refine Fa underlying204 rfl sizeOf3 (Li h104 isAgg3 (Vy (zN rfl rfl) ?_))
     obtain ⟨x105, hx105, h98⟩ := Bs h98
     refine Vc call145 (zcK w94 (w64 ((w64 ((if x49.to_ < p3 then x49.to_ else p3) - 1)) + x49.offset)) 1440 hx105) ?_
     rintro _ _ ⟨rfl, rfl⟩
     refine Vy (JA rfl rfl) (To ?_)
     refine Cc (fun hc106 => ?_) fun hc106 => ?_
     ·rw [if_pos hc106] at h98
      refine Sk ?_
      refine zh (zl (Sr (Mm (Mm ?_))))
      replace hH := Hf 1 hH
      obtain ⟨x107, hx107, h98⟩ := Bs h98
      refine Vc call143 (zbI (Dw := Dw) w94 hB hA s93.1 p1 b_p1 h_p1 x49 b55 h60 (if p2 < x49.from_ then x49.from_ else p2) (b63 0) h74 (if x49.to_ < p3 then x49.to_ else p3) (b63 1) h78 yield yield_Y yield_v yield_one s93.2 (fun w2 A2 L2 x2 z2 b2 z3 h1 h2 h3 => yield_spec w2 A2 L2 x2 z2 b2 z3 h1 h2 (Tr.trans hK h3)) b1 h5 hH hx107) ?_
      rintro _ w108 ⟨A109, rfl, hH110, ht111⟩
      replace h5 := Vb.tr (Dw := Dw) h5 ht111
      replace hK := Tt hK ht111; replace hr86 := Tt hr86 ht111; replace hH := hH110
      refine Vy (Zs rfl) (To ?_)
      refine Cc (fun hc112 => ?_) fun hc112 => ?_
      ·rw [if_pos hc112] at h98
       obtain rfl := Oi h98
       obtain rfl := (h99 : Lp.rt _ = _)
       rw [Lp.andThen_rt] at ho41
       obtain rfl := Oi ho41
       rw [Lp.andThen_rt] at h33
       obtain rfl := Oi h33
       obtain rfl := (h34 : Lp.rt _ = _)
       rw [Lp.andThen_rt] at hm
       obtain rfl := Oi hm
       replace hH := Hd 1 hH
       refine Rt (Res.zero results141) ?_
       exact ⟨A109, rfl, hH, hK⟩
      rw [if_neg (nt hc112)] at h98
      refine Sk ?_
      refine zo (Mm (Vy (zN rfl rfl) (As ?_)))
      obtain rfl := Oi h98
      refine zn (fun a ha113 => ?_)
      replace hH := Hf 1 hH
      exact ⟨(w64 (s93.1 + 1), x107.2), h99, ⟨A109, ha113.sb, ⟨hH, hr86⟩⟩⟩
     rw [if_neg (nt hc106)] at h98
     obtain rfl := Oi h98
     refine zQ (fun a ha114 => ?_)
     exact ⟨((s93.1, s93.2), A95), ha114.sb, ⟨h99.symm, hH, hr86⟩⟩
    rintro ⟨s85, A91⟩ w88 ⟨rfl, hH92, hk89⟩ a ha90
    rw [Lp.andThen_fin] at ho41
    replace h5 := Vb.tr (Dw := Dw) h5 hk89
    replace hr43 := Tr.trans hr43 hk89; replace hA := hk89.new; replace hH := hH92
    obtain rfl := Oi ho41
    exact ⟨(s85.2, A91), ha90.sb, ⟨rfl, hH, hr43⟩⟩
   rintro ⟨s42, A47⟩ w44 ⟨rfl, hH48, hk45⟩ a ha46
   rw [Lp.andThen_fin] at h33
   replace h5 := Vb.tr (Dw := Dw) h5 hk45
   replace hr21 := Tr.trans hr21 hk45; replace hA := hk45.new; replace hH := hH48
   refine C_at (n := ⟨52, [], none⟩) (fun _ _ => rfl) ?_ ha46
   refine zo (Vy (zN rfl rfl) (Mm ?_))
   obtain rfl := Oi h33
   refine zn (fun a ha117 => ?_)
   exact ⟨s42, hlt36, h34, ⟨A47, ha117.sub ⟨rfl, rfl, rfl, rfl, rfl, rfl, Ws hlt36 hn39, trivial⟩, ⟨hH, hr21⟩⟩⟩
  refine zQ (fun a ha118 => ?_)
  exact ⟨(s28, A30), ha118.sub trivial, ⟨(h37 (zK hle35 hc40)).symm, hH, hr21⟩⟩
 rintro ⟨s20, A26⟩ w23 ⟨rfl, hH27, hk24⟩ a ha25
 rw [Lp.andThen_fin] at hm
 replace hK := Tr.trans hK hk24; replace hA := hk24.new; replace hH := hH27
 obtain rfl := Oi hm
 replace hH := Hd 1 (Hf 1 hH)
 try simp only [↓ib, ↓th]
 exact zkZ (retQ rfl (Res.zero results141) ⟨A26, rfl, hH, hK⟩ a ha25)
theorem Jr (w : World) {A : Nat → Prop} {B : Nat} (hB : B ≤ w.heap.size) (hA : ∀ b, w.heap.size ≤ b → A b) {yield_S : Type} (yield : zr → yield_S → Option (Bool × yield_S)) (yield_Y : yield_S → Ob) (yield_v : Value) (yield_one : yield_v.cells.toList = [yield_v]) (yield_s : yield_S) (yield_spec : ∀ (w2 : World) (A2 : Nat → Prop) (L2 : List Ob) (x : zr) (z : yield_S) (b : Bool) (z2 : yield_S), B ≤ w2.heap.size → (∀ b, w2.heap.size ≤ b → A2 b) → Tr Dw B A w A2 w2 → Hp B A2 w2 (yield_Y z :: L2) → yield x z = some (b, z2) → CallV prog yield_v [.agg #[Ii x.from_, Ii x.to_]] w2 fun v w3 => v = .bool b ∧ ∃ A3, Tr Dw B A2 w2 A3 w3 ∧ Hp B A3 w3 (yield_Y z2 :: L2)) (p1 : zg) (b_p1 : Nat) (h_p1 : El A w b_p1 0 p1) (p2 : Int) (b_p2 : Nat) (h_p2 : El A w b_p2 0 p2) (p3 : Int) (b_p3 : Nat) (h_p3 : El A w b_p3 0 p3) {L : List Ob} (hH : Hp B A w (yield_Y yield_s :: L)) {r : yield_S} (hm : qt yield yield_s p1 p2 p3 = some r) : Ret prog 118 #[yield_v, Pt b_p1, Pt b_p2, Pt b_p3] w fun v w' => ∃ A1 : Nat → Prop, v = .tuple #[] ∧ Hp B A1 w' (yield_Y r :: L) ∧ Tr Dw B A w A1 w' := by
 unfold qt at hm
 refine zfI func118 rfl ntmps118 rfl ?_
 have hK : Tr Dw B A w A w := Tr.refl (Dw := Dw) hA
 refine Sr ?_
 refine Zy rfl rfl ?_
 intro b1 w2 h3
 have hk4 := h3.kp (Dw := Dw)
 have h5 : Vb A w2 b1 yield_v := h3.vb hA yield_one
 have ht6 := Kp.tr hk4 hA hB; replace hH := Hp.kp hH hk4; replace h_p1 := El.tr h_p1 ht6; replace h_p2 := El.tr h_p2 ht6; replace h_p3 := El.tr h_p3 ht6
 obtain ⟨hK, hB, hA⟩ := U0 ht6 hK hB
 refine To ?_
 refine Sr ?_
 refine Vy (zaz underlying189 zeroValue189 (zdl _ underlying189) rfl (by with_unfolding_all rfl)) ?_
 refine Jj (Dw := Dw) (B := B) hH zeroValue189 hB hA rfl ?_
 intro b7 w9 A10 hH11 ht12
 replace h_p1 := El.tr h_p1 ht12; replace h_p2 := El.tr h_p2 ht12; replace h_p3 := El.tr h_p3 ht12
 replace h5 := Vb.tr (Dw := Dw) h5 ht12
 obtain ⟨hK, hB, hA⟩ := U0 ht12 hK hB
 replace hH := hH11
 refine ZG (Dw := Dw) (off := 0) (ds := [Ii (-1), Ii (-1)]) hH (i := 0) rfl sizeOf189 rfl (Nat.le_of_ble_eq_true rfl) (by simp [Value.cells, Value.oneCell']) rfl hB hA rfl rfl ?_
 intro w13 hH14 ht15
 replace h_p1 := El.tr h_p1 ht15; replace h_p2 := El.tr h_p2 ht15; replace h_p3 := El.tr h_p3 ht15
 replace h5 := Vb.tr (Dw := Dw) h5 ht15
 obtain ⟨hK, hB, hA⟩ := U0 ht15 hK hB
 replace hH := hH14
 refine To ?_
 refine zh (Sr ?_)
 obtain ⟨v16, v18, v20, h22, h17, h19, h21⟩ := Zg h_p1
 refine Vy (zx h22 isAgg71 sizeOf71 rfl) (Li h_p2 isAgg3 (Li h_p3 isAgg3 ?_))
 obtain ⟨x23, hx23, hm⟩ := Bs hm
 refine Vc call119 (zda (Dw := Dw) w13 hA p1 v16 h17 v18 h19 v20 h21 p2 p3 hx23) ?_
 rintro _ w30 ⟨b24, b26, b28, rfl, h25, h27, h29, hk31⟩
 have ht32 := Kp.tr hk31 hA hB; replace hH := Hp.kp hH hk31
 replace h5 := Vb.tr (Dw := Dw) h5 ht32
 obtain ⟨hK, hB, hA⟩ := U0 ht32 hK hB
 refine To ?_
 have hH37 : Hp B A10 w30 ((fun (s34 : (zr × yield_S)) => obE (fun (i : Unit) => [obC b7 [Ii s34.1.from_, Ii s34.1.to_] 189, yield_Y s34.2])) ((⟨(-1), (-1)⟩ : zr), yield_s) :: L) := Hp.pack (F := fun (i : Unit) => [obC b7 [Ii ((⟨(-1), (-1)⟩ : zr), yield_s).1.from_, Ii ((⟨(-1), (-1)⟩ : zr), yield_s).1.to_] 189, yield_Y ((⟨(-1), (-1)⟩ : zr), yield_s).2]) () hH
 obtain ⟨z33, hz33, hm⟩ := Bs hm
 refine zfH (ι := Nat × (Nat → Prop)) (fun i => ⟨41, [{ target := .collected i.1, args := #[] }], none⟩) (fun i => [(4, Pt b1), (5, Pt b7)]) (fun i w' => z33.2 ≠ some 0 ∧ Hp B i.2 w' ((fun (s34 : (zr × yield_S)) => obE (fun (i : Unit) => [obC b7 [Ii s34.1.from_, Ii s34.1.to_] 189, yield_Y s34.2])) z33.1 :: obO i.1 (.deferred (some [])) :: L) ∧ Tr Dw B A10 w30 i.2 w') ?_ ?_
 ·refine zl ?_
  refine zbj (Dw := Dw) (B := B) (A := A10) (L := L) (X := zr) (fun (x43 : zr) => [.agg #[Ii x43.from_, Ii x43.to_]]) (fun (s34 : (zr × yield_S)) => obE (fun (i : Unit) => [obC b7 [Ii s34.1.from_, Ii s34.1.to_] 189, yield_Y s34.2])) (fun (x43 : zr) (s35 : (zr × yield_S)) => Option.bind (α := Lp _ _) (Option.bind (α := Lp _ _) (Option.bind (α := Lp _ _) (if (decide (s35.1.from_ < 0)) = true then some (.fin (x43, s35.2)) else Option.bind (α := Lp _ _) (if (decide (x43.from_ ≤ s35.1.to_)) = true then some (.fin ((⟨s35.1.from_, (if s35.1.to_ < x43.to_ then x43.to_ else s35.1.to_)⟩ : zr), s35.2)) else Option.bind (yield s35.1 s35.2) fun x110 => if (!x110.1) = true then some (.rt ((s35.1, x110.2), some 0)) else some (.fin (x43, x110.2))) fun o96 => o96.andThen (fun y => some (.rt y)) fun s97 => some (.fin (s97.1, s97.2))) fun o81 => o81.andThen (fun y => some (.rt y)) fun s82 => some (.fin (s82.1, s82.2))) fun o73 => o73.andThen (fun y => some (.rt y)) fun s74 => some (.fin (s74.1, s74.2))) fun o65 => o65.andThen (fun y => some y) fun s66 => some ((s66.1, s66.2), none)) (fun k => if k = 0 then .ret else .exit 0) (s0 := ((⟨(-1), (-1)⟩ : zr), yield_s)) (zf := z33) rfl rfl rfl (by decide) (fun _ => rfl) hB hA hH37 141 _ rfl call141 ?_ ?_ ?_ ?_
  ·intro Ys yv w1 A1 L1 h1 h2 h3 h4 h0 h5
   exact (zck (Dw := Dw) w1 h1 h2 (QD (fun (x43 : zr) (s35 : (zr × yield_S)) => Option.bind (α := Lp _ _) (Option.bind (α := Lp _ _) (Option.bind (α := Lp _ _) (if (decide (s35.1.from_ < 0)) = true then some (.fin (x43, s35.2)) else Option.bind (α := Lp _ _) (if (decide (x43.from_ ≤ s35.1.to_)) = true then some (.fin ((⟨s35.1.from_, (if s35.1.to_ < x43.to_ then x43.to_ else s35.1.to_)⟩ : zr), s35.2)) else Option.bind (yield s35.1 s35.2) fun x110 => if (!x110.1) = true then some (.rt ((s35.1, x110.2), some 0)) else some (.fin (x43, x110.2))) fun o96 => o96.andThen (fun y => some (.rt y)) fun s97 => some (.fin (s97.1, s97.2))) fun o81 => o81.andThen (fun y => some (.rt y)) fun s82 => some (.fin (s82.1, s82.2))) fun o73 => o73.andThen (fun y => some (.rt y)) fun s74 => some (.fin (s74.1, s74.2))) fun o65 => o65.andThen (fun y => some y) fun s66 => some ((s66.1, s66.2), none))) Ys yv h0 (((⟨(-1), (-1)⟩ : zr), yield_s), none) h5 x23.1 b24 (El.tr h25 h3) x23.2.1 b26 (El.tr h27 h3) x23.2.2 b28 (El.tr h29 h3) h4 hz33).mono fun _ _ ⟨A3, _, hh, tt⟩ => ⟨A3, tt, hh⟩
  ·intro l38 rc39 w40 A41 L42 x43 s35 s36 j44 hst45 hB46 hA47 ht48 hH49 h50
   obtain ⟨_, hH49⟩ := Hp.open hH49
   replace h5 := Vb.tr (Dw := Dw) h5 ht48
   obtain ⟨hK, hB, hA⟩ := U0 ht48 hK hB
   replace hH := hH49
   have hr51 : Tr Dw B A41 w40 A41 w40 := Tr.refl (Dw := Dw) hA
   show C _ _ _ _ _ _
   refine zo ?_
   refine Zf zeroValue189 rfl ?_
   intro b53 w54 h55
   refine Sn h55 sizeOf189 ?_
   intro w56 h57
   have hk59 := h57.kp (Dw := Dw)
   have h58 : El (α := zr) A41 w56 b53 0 x43 := h57.el hA ⟨[Ii x43.from_], _, rfl, rfl, rfl⟩
   have ht60 := Kp.tr hk59 hA hB; replace hH := Hp.kp hH hk59
   replace h5 := Vb.tr (Dw := Dw) h5 ht60
   replace hr51 := Tt hr51 ht60
   obtain ⟨hK, hB, hA⟩ := U0 ht60 hK hB
   refine zn (fun a ha61 => ?_)
   refine zdC (Dw := Dw) hH (i := 2) rfl hst45 hB hA (fun w62 hH63 ht64 => ?_) ha61
   replace h5 := Vb.tr (Dw := Dw) h5 ht64
   replace h58 := El.tr h58 ht64; replace hr51 := Tt hr51 ht64
   obtain ⟨hK, hB, hA⟩ := U0 ht64 hK hB
   replace hH := hH63
   obtain ⟨o65, ho65, h50⟩ := Bs h50
   refine zu (ι := ((zr × yield_S) × (Nat → Prop))) (fun ⟨s66, A71⟩ => []) (fun ⟨s66, A71⟩ => fun w' => o65 = .fin s66 ∧ Hp B A71 w' (obC b7 [Ii s66.1.from_, Ii s66.1.to_] 189 :: yield_Y s66.2 :: obO l38 (.loop { rc39 with state := .busy }) :: L42) ∧ Tr Dw B A41 w62 A71 w') ?_ ?_
   ·have hr67 : Tr Dw B A41 w62 A41 w62 := Tr.refl (Dw := Dw) hA
    refine zl ?_
    obtain ⟨o73, ho73, ho65⟩ := Bs ho65
    refine zu (ι := ((zr × yield_S) × (Nat → Prop))) (fun ⟨s74, A79⟩ => []) (fun ⟨s74, A79⟩ => fun w' => o73 = .fin s74 ∧ Hp B A79 w' (obC b7 [Ii s74.1.from_, Ii s74.1.to_] 189 :: yield_Y s74.2 :: obO l38 (.loop { rc39 with state := .busy }) :: L42) ∧ Tr Dw B A41 w62 A79 w') ?_ ?_
    ·have hr75 : Tr Dw B A41 w62 A41 w62 := Tr.refl (Dw := Dw) hA
     refine zl (Sr (Vy (Fc 0 underlying189 rfl sizeOf3 rfl rfl) (Ld (Hc 0 0 hH rfl rfl) isAgg3 (Vy (zR rfl rfl) (As (To ?_))))))
     obtain ⟨o81, ho81, ho73⟩ := Bs ho73
     refine zu (ι := ((zr × yield_S) × (Nat → Prop))) (fun ⟨s82, A87⟩ => []) (fun ⟨s82, A87⟩ => fun w' => o81 = .fin s82 ∧ Hp B A87 w' (obC b7 [Ii s82.1.from_, Ii s82.1.to_] 189 :: yield_Y s82.2 :: obO l38 (.loop { rc39 with state := .busy }) :: L42) ∧ Tr Dw B A41 w62 A87 w') ?_ ?_
     ·have hr83 : Tr Dw B A41 w62 A41 w62 := Tr.refl (Dw := Dw) hA
      refine Cc (fun hc89 => ?_) fun hc89 => ?_
      ·rw [if_pos hc89] at ho81
       refine zo ?_
       obtain ⟨h90, _⟩ := zcJ h58
       refine Vy (zx h90 isAgg189 sizeOf189 rfl) ?_
       refine ZG (Dw := Dw) (off := 0) (ds := [Ii x43.from_, Ii x43.to_]) hH (i := 0) rfl sizeOf189 rfl (Nat.le_of_ble_eq_true rfl) (by simp [Value.cells, Value.oneCell']) rfl hB hA rfl rfl ?_
       intro w91 hH92 ht93
       replace h5 := Vb.tr (Dw := Dw) h5 ht93
       replace hr83 := Tt hr83 ht93; replace hH := hH92
       obtain rfl := Oi ho81
       refine zn (fun a ha94 => ?_)
       exact ⟨((x43, s35.2), A41), ha94.sub trivial, ⟨rfl, hH, hr83⟩⟩
      rw [if_neg (nt hc89)] at ho81
      refine Sr ?_
      have h95 := zat h58
      refine Fa underlying189 rfl sizeOf3 (Li h95 isAgg3 (Vy (Fc 1 underlying189 rfl sizeOf3 rfl rfl) (Ld (Hc 1 0 hH rfl rfl) isAgg3 (Vy (JA rfl rfl) (As (To ?_))))))
      obtain ⟨o96, ho96, ho81⟩ := Bs ho81
      refine zu (ι := ((zr × yield_S) × (Nat → Prop))) (fun ⟨s97, A102⟩ => []) (fun ⟨s97, A102⟩ => fun w' => o96 = .fin s97 ∧ Hp B A102 w' (obC b7 [Ii s97.1.from_, Ii s97.1.to_] 189 :: yield_Y s97.2 :: obO l38 (.loop { rc39 with state := .busy }) :: L42) ∧ Tr Dw B A41 w62 A102 w') ?_ ?_
      ·have hr98 : Tr Dw B A41 w62 A41 w62 := Tr.refl (Dw := Dw) hA
       refine Cc (fun hc104 => ?_) fun hc104 => ?_
       ·rw [if_pos hc104] at ho96
        refine zo (Vy (Fc 1 underlying189 rfl sizeOf3 rfl rfl) (Ld (Hc 1 0 hH rfl rfl) isAgg3 ?_))
        have h105 := zbz h58
        refine Fa underlying189 rfl sizeOf3 (Li h105 isAgg3 (Vy (zeh rfl rfl) (Vy (Fc 1 underlying189 rfl sizeOf3 rfl rfl) ?_)))
        refine ZG (Dw := Dw) (off := 1) (ds := [Ii s35.1.from_, Ii (if s35.1.to_ < x43.to_ then x43.to_ else s35.1.to_)]) hH (i := 0) rfl sizeOf3 rfl (Nat.le_of_ble_eq_true rfl) (by simp [Value.cells, Value.oneCell']) rfl hB hA rfl rfl ?_
        intro w106 hH107 ht108
        replace h5 := Vb.tr (Dw := Dw) h5 ht108
        replace hr98 := Tt hr98 ht108; replace hH := hH107
        obtain rfl := Oi ho96
        refine zn (fun a ha109 => ?_)
        exact ⟨(((⟨s35.1.from_, (if s35.1.to_ < x43.to_ then x43.to_ else s35.1.to_)⟩ : zr), s35.2), A41), ha109.sub trivial, ⟨rfl, hH, hr98⟩⟩
       rw [if_neg (nt hc104)] at ho96
       refine zh (Sr (Vy (qn h5.2.2 isAgg187 rfl) (Vy (zx (Hp.part (off := 0) (n := 2) (ds := [Ii s35.1.from_, Ii s35.1.to_]) hH (i := 0) rfl rfl) isAgg189 sizeOf189 rfl) ?_)))
       obtain ⟨x110, hx110, ho96⟩ := Bs ho96
       replace hH := Hf 1 hH
       refine zfR rfl rfl rfl (yield_spec w62 _ _ s35.1 _ x110.1 x110.2 hB hA hK hH hx110) ?_
       rintro _ w111 ⟨rfl, A112, ht114, hH113⟩
       replace h5 := Vb.tr (Dw := Dw) h5 ht114
       replace h58 := El.tr h58 ht114; replace hr51 := Tt hr51 ht114; replace hr98 := Tt hr98 ht114; replace hB := Bx hB ht114; replace hA := ht114.new; replace hH := hH113
       refine Vy (Zs rfl) (To ?_)
       refine Cc (fun hc115 => ?_) fun hc115 => ?_
       ·rw [if_pos hc115] at ho96
        obtain rfl := Oi ho96
        rw [Lp.andThen_rt] at ho81
        obtain rfl := Oi ho81
        rw [Lp.andThen_rt] at ho73
        obtain rfl := Oi ho73
        rw [Lp.andThen_rt] at ho65
        obtain rfl := Oi ho65
        rw [Lp.andThen_rt] at h50
        obtain ⟨rfl, rfl⟩ := Prod.mk.inj (Oi h50)
        refine jP (fun a ha116 => ?_)
        replace hH := Hf 2 (Hf 1 (Hf 2 hH))
        exact ⟨rfl, A112, hr51, Hp.pack (F := fun (i : Unit) => [obC b7 [Ii (s35.1, x110.2).1.from_, Ii (s35.1, x110.2).1.to_] 189, yield_Y (s35.1, x110.2).2]) () hH⟩
       rw [if_neg (nt hc115)] at ho96
       refine Sk ?_
       refine zo ?_
       obtain ⟨h117, _⟩ := zcJ h58
       refine Vy (zx h117 isAgg189 sizeOf189 rfl) ?_
       refine ZG (Dw := Dw) (off := 0) (ds := [Ii x43.from_, Ii x43.to_]) hH (i := 1) rfl sizeOf189 rfl (Nat.le_of_ble_eq_true rfl) (by simp [Value.cells, Value.oneCell']) rfl hB hA rfl rfl ?_
       intro w118 hH119 ht120
       replace hr98 := Tt hr98 ht120; replace hH := hH119
       obtain rfl := Oi ho96
       refine zn (fun a ha121 => ?_)
       replace hH := Hf 2 (Hf 1 (Hf 2 hH))
       exact ⟨((x43, x110.2), A112), ha121.sub trivial, ⟨rfl, hH, hr98⟩⟩
      rintro ⟨s97, A102⟩ w99 ⟨rfl, hH103, hk100⟩ a ha101
      rw [Lp.andThen_fin] at ho81
      replace hr83 := Tr.trans hr83 hk100; replace hA := hk100.new; replace hH := hH103
      obtain rfl := Oi ho81
      exact ⟨((s97.1, s97.2), A102), ha101.sub trivial, ⟨rfl, hH, hr83⟩⟩
     rintro ⟨s82, A87⟩ w84 ⟨rfl, hH88, hk85⟩ a ha86
     rw [Lp.andThen_fin] at ho73
     replace hr75 := Tr.trans hr75 hk85; replace hA := hk85.new; replace hH := hH88
     obtain rfl := Oi ho73
     exact ⟨((s82.1, s82.2), A87), ha86.sub trivial, ⟨rfl, hH, hr75⟩⟩
    rintro ⟨s74, A79⟩ w76 ⟨rfl, hH80, hk77⟩ a ha78
    rw [Lp.andThen_fin] at ho65
    replace hr67 := Tr.trans hr67 hk77; replace hA := hk77.new; replace hH := hH80
    obtain rfl := Oi ho65
    exact ⟨((s74.1, s74.2), A79), ha78.sub trivial, ⟨rfl, hH, hr67⟩⟩
   rintro ⟨s66, A71⟩ w68 ⟨rfl, hH72, hk69⟩ a ha70
   rw [Lp.andThen_fin] at h50
   replace hr51 := Tr.trans hr51 hk69; replace hA := hk69.new; replace hH := hH72
   obtain ⟨rfl, rfl⟩ := Prod.mk.inj (Oi h50)
   exact ⟨rfl, A71, hr51, Hp.pack (F := fun (i : Unit) => [obC b7 [Ii (s66.1, s66.2).1.from_, Ii (s66.1, s66.2).1.to_] 189, yield_Y (s66.1, s66.2).2]) () hH⟩
  ·intro hc131 D126 w127 A128 ht129 hH130 a ha132
   exact ⟨(D126, A128), ha132.sb, (by rw [hc131]; simp), hH130, ht129⟩
  intro k133 hc131 D126 w127 A128 ht129 hH130
  by_cases hc134 : k133 = 0
  ·subst hc134
   rw [if_pos hc131] at hm
   obtain ⟨_, hH130⟩ := Hp.open hH130
   obtain ⟨hK, hB, hA⟩ := U0 ht129 hK hB
   replace hH := hH130
   show C _ _ .ret _ _ _
   obtain rfl := Oi hm
   have h135 := Hp.obj hH (i := 2) (b := D126) rfl
   obtain ⟨hH136, ht137⟩ := Hp.put (Dw := Dw) (.deferred none) hH (i := 2) (b := D126) rfl hB hA
   replace hK := Tt hK ht137
   replace hH : Hp B A128 (World.putObj w127 D126 (.deferred none)) (obC b7 [Ii z33.1.1.from_, Ii z33.1.1.to_] 189 :: yield_Y z33.1.2 :: obO D126 (.deferred none) :: L) := hH136
   replace hH : Hp B A128 (World.putObj w127 D126 (.deferred none)) (yield_Y z33.1.2 :: obC b7 [Ii z33.1.1.from_, Ii z33.1.1.to_] 189 :: obO D126 (.deferred none) :: L) := Hp.front hH (i := 1) rfl
   replace hH : Hp B A128 (World.putObj w127 D126 (.deferred none)) (yield_Y z33.1.2 :: obO D126 (.deferred none) :: L) := Hp.drop hH (i := 1) rfl
   replace hH : Hp B A128 (World.putObj w127 D126 (.deferred none)) (yield_Y z33.1.2 :: L) := Hp.drop hH (i := 1) rfl
   refine jP ?_
   try simp only [↓ib, ↓th]
   exact zcC rfl h135 (Res.zero results118) ⟨A128, rfl, hH, hK⟩
  show C _ _ (if k133 = 0 then _ else _) _ _ _
  rw [if_neg hc134]
  refine zQ fun a ha132 => ?_
  show Exit.inBlock _ _ _ _ _
  rw [Exit.inBlock, if_pos rfl]
  exact ⟨(D126, A128), ha132.sb, (by rw [hc131]; simpa using hc134), hH130, ht129⟩
 rintro ⟨D126, A128⟩ w127 ⟨hc138, hH130, ht129⟩ a ha132
 rw [if_neg hc138] at hm
 obtain ⟨_, hH130⟩ := Hp.open hH130
 replace h5 := Vb.tr (Dw := Dw) h5 ht129
 obtain ⟨hK, hB, hA⟩ := U0 ht129 hK hB
 replace hH := hH130
 refine C_at (n := ⟨41, [{ target := .collected D126, args := #[] }], none⟩) (fun _ _ => rfl) ?_ ha132
 refine Sr (Vy (Fc 0 underlying189 rfl sizeOf3 rfl rfl) (Ld (Hc 0 0 hH rfl rfl) isAgg3 (Vy (Qz rfl rfl) (To ?_))))
 obtain ⟨s140, ho139, hm⟩ := Bs hm
 refine zu (ι := (Nat → Prop)) (fun (A145 : (Nat → Prop)) => []) (fun (A145 : (Nat → Prop)) => fun w' => Hp B A145 w' (obC b7 [Ii z33.1.1.from_, Ii z33.1.1.to_] 189 :: yield_Y s140 :: obO D126 (.deferred (some [])) :: L) ∧ Tr Dw B A128 w127 A145 w') ?_ ?_
 ·have hr141 : Tr Dw B A128 w127 A128 w127 := Tr.refl (Dw := Dw) hA
  refine Cc (fun hc147 => ?_) fun hc147 => ?_
  ·rw [if_pos hc147] at ho139
   refine zo (Vy (qn h5.2.2 isAgg187 rfl) (Vy (zx (Hp.part (off := 0) (n := 2) (ds := [Ii z33.1.1.from_, Ii z33.1.1.to_]) hH (i := 0) rfl rfl) isAgg189 sizeOf189 rfl) ?_))
   obtain ⟨x148, hx148, ho139⟩ := Bs ho139
   replace hH := Hf 1 hH
   refine zfR rfl rfl rfl (yield_spec w127 _ _ z33.1.1 _ x148.1 x148.2 hB hA hK hH hx148) ?_
   rintro _ w149 ⟨rfl, A150, ht152, hH151⟩
   replace h5 := Vb.tr (Dw := Dw) h5 ht152
   replace hr141 := Tt hr141 ht152; replace hH := hH151
   obtain rfl := Oi ho139
   refine zn (fun a ha153 => ?_)
   replace hH := Hf 2 (Hf 1 (Hf 2 hH))
   exact ⟨A150, ha153.sub trivial, ⟨hH, hr141⟩⟩
  rw [if_neg (nt hc147)] at ho139
  obtain rfl := Oi ho139
  refine qL (fun a ha154 => ?_)
  exact ⟨A128, ha154.sub trivial, ⟨hH, hr141⟩⟩
 rintro A145 w142 ⟨hH146, hk143⟩ a ha144
 replace hK := Tr.trans hK hk143; replace hB := Nat.le_trans hB hk143.ex.size; replace hA := hk143.new; replace hH := hH146
 obtain rfl := Oi hm
 have h156 := Hp.obj hH (i := 2) (b := D126) rfl
 obtain ⟨hH157, ht158⟩ := Hp.put (Dw := Dw) (.deferred none) hH (i := 2) (b := D126) rfl hB hA
 replace hK := Tt hK ht158
 replace hH : Hp B A145 (World.putObj w142 D126 (.deferred none)) (obC b7 [Ii z33.1.1.from_, Ii z33.1.1.to_] 189 :: yield_Y s140 :: obO D126 (.deferred none) :: L) := hH157
 replace hH : Hp B A145 (World.putObj w142 D126 (.deferred none)) (yield_Y s140 :: obC b7 [Ii z33.1.1.from_, Ii z33.1.1.to_] 189 :: obO D126 (.deferred none) :: L) := Hp.front hH (i := 1) rfl
 replace hH : Hp B A145 (World.putObj w142 D126 (.deferred none)) (yield_Y s140 :: obO D126 (.deferred none) :: L) := Hp.drop hH (i := 1) rfl
 replace hH : Hp B A145 (World.putObj w142 D126 (.deferred none)) (yield_Y s140 :: L) := Hp.drop hH (i := 1) rfl
 try simp only [↓ib, ↓th]
 exact zmf (zcC rfl h156 (Res.zero results118) ⟨A145, rfl, hH, hK⟩ a ha144)
theorem zdo (w : World) {A : Nat → Prop} (hA : ∀ b, w.heap.size ≤ b → A b) (c : zg) (v_c0 : Value) (h_c0 : Sl A w v_c0 c.zone.changes) (v_c1 : Value) (h_c1 : Sl A w v_c1 c.week) (v_c2 : Value) (h_c2 : Sl A w v_c2 c.specials) (m : Int) {r : (Bool × Int)} (hm : Qb c m = some r) : Ret prog 72 #[.agg #[Ii c.zone.offset, v_c0, v_c1, v_c2], Ii m] w fun v w' => v = .tuple #[.bool r.1, Ii r.2] ∧ Kp Dw w w' := by
 unfold Qb at hm
 refine zfI func72 rfl ntmps72 rfl ?_
 have hA0 := hA
 obtain ⟨hB, hK, hH⟩ := St (Dw := Dw) hA
 refine Sr ?_
 refine Zy rfl rfl ?_
 intro b7 w9 h10
 have hk12 := h10.kp (Dw := Dw)
 have h11 : El (α := zg) A w9 b7 0 c := h10.el hA ⟨[Ii c.zone.offset, v_c0], _, rfl, ⟨[Ii c.zone.offset], _, rfl, rfl, ⟨_, rfl, h_c0⟩⟩, ⟨[v_c1], _, rfl, ⟨_, rfl, h_c1⟩, ⟨_, rfl, h_c2⟩⟩⟩
 have ht13 := Kp.tr hk12 hA hB; replace hH := Hp.kp hH hk12
 obtain ⟨hK, hB, hA⟩ := U0 ht13 hK hB
 refine Jj (Dw := Dw) (B := w.heap.size) hH zeroValue4 hB hA rfl ?_
 intro b14 w15 A16 hH17 ht18
 replace h11 := El.tr h11 ht18
 obtain ⟨hK, hB, hA⟩ := U0 ht18 hK hB
 replace hH := hH17
 refine Jj (Dw := Dw) (B := w.heap.size) hH zeroValue29 hB hA rfl ?_
 intro b19 w20 A21 hH22 ht23
 replace h11 := El.tr h11 ht23
 obtain ⟨hK, hB, hA⟩ := U0 ht23 hK hB
 replace hH := hH22
 refine To ?_
 refine zh (Sr ?_)
 obtain ⟨v24, v26, v28, h30, h25, h27, h29⟩ := Zg h11
 refine Vy (zx h30 isAgg71 sizeOf71 rfl) ?_
 obtain ⟨x31, hx31, hm⟩ := Bs hm
 refine Vc call51 (jQ (Dw := Dw) w20 hA c v24 h25 v26 h27 v28 h29 hx31) ?_
 rintro _ w33 ⟨rfl, hk34⟩
 have ht35 := Kp.tr hk34 hA hB; replace hH := Hp.kp hH hk34; replace h11 := El.tr h11 ht35
 obtain ⟨hK, hB, hA⟩ := U0 ht35 hK hB
 refine Mm ?_
 refine Vc call92 (zbW w33 m) ?_
 rintro _ _ ⟨rfl, rfl⟩
 refine zX (Dw := Dw) (cells := #[Ii x31, Ii (Zm m)]) (l := ([x31, (Zm m)] : List Int)) (len := 2) underlying150 sizeOf29 zeroValue29 rfl (by generalize ((Zm m) : Int) = z40; kernel_rfl) (show (2 * 1 : Nat) ≠ 0 by decide) (show (2 * 1 : Nat) ≤ 2 ^ 24 by decide) hA ⟨[Ii x31], _, rfl, rfl, ⟨[Ii (Zm m)], _, rfl, rfl, rfl⟩⟩ rfl rfl ?_
 intro v36 w37 hk39 h38
 have ht41 := Kp.tr hk39 hA hB; replace hH := Hp.kp hH hk39; replace h11 := El.tr h11 ht41
 obtain ⟨hK, hB, hA⟩ := U0 ht41 hK hB
 obtain ⟨x42, hx42, hm⟩ := Bs hm
 refine Vc call68 (Qs w37 ([x31, (Zm m)] : List Int) v36 h38 hx42) ?_
 rintro _ _ ⟨rfl, rfl⟩
 refine As (To ?_)
 refine Sr (Mm (Vy (ZW rfl rfl) (To ?_)))
 refine Cc (fun hc43 => ?_) fun hc43 => ?_
 ·rw [if_pos hc43] at hm
  refine Sr (Mm ?_)
  refine ZG (Dw := Dw) (off := 0) (ds := [.bool false]) hH (i := 1) rfl sizeOf4 rfl (Nat.le_of_ble_eq_true rfl) (by simp [Value.cells, Value.oneCell']) rfl hB hA rfl rfl ?_
  intro w44 hH45 ht46
  obtain ⟨hK, hB, hA⟩ := U0 ht46 hK hB
  replace hH := hH45
  refine ZG (Dw := Dw) (off := 0) (ds := [Ii x42]) hH (i := 0) rfl sizeOf29 rfl (Nat.le_of_ble_eq_true rfl) (by simp [Value.cells, Value.oneCell']) rfl hB hA rfl rfl ?_
  intro w47 hH48 ht49
  replace hK := Tt hK ht49; replace hH := hH48
  refine To ?_
  obtain rfl := Oi hm
  refine jP ?_
  try simp only [↓ib, ↓th]
  exact retM rfl (Res.l2 results72 (RL.cell rfl (qE (Hc 0 1 hH rfl rfl) isAgg4)) (RL.cell rfl (qE (Hc 0 0 hH rfl rfl) isAgg29))) ⟨rfl, hK.kp⟩
 rw [if_neg (nt hc43)] at hm
 refine Sk ?_
 refine zh (Sr ?_)
 obtain ⟨v50, v52, v54, h56, h51, h53, h55⟩ := Zg h11
 refine Vy (zx h56 isAgg71 sizeOf71 rfl) (Mm (Mm (Vy (zN rfl rfl) ?_)))
 obtain ⟨x57, hx57, hm⟩ := Bs hm
 refine Vc call93 (JQ (Dw := Dw) w37 hA c v50 h51 v52 h53 v54 h55 m (w64 (m + 1)) hx57) ?_
 rintro _ w65 ⟨b58, b60, b62, rfl, h59, h61, h63, hk66⟩
 have ht67 := Kp.tr hk66 hA hB; replace hH := Hp.kp hH hk66
 obtain ⟨hK, hB, hA⟩ := U0 ht67 hK hB
 refine To ?_
 have hH72 : Hp w.heap.size A21 w65 ((fun (s69 : (Int × Bool)) => obE (fun (i : Unit) => [obC b19 [Ii s69.1] 29, obC b14 [.bool s69.2] 4])) (0, false) :: []) := Hp.pack (F := fun (i : Unit) => [obC b19 [Ii (0, false).1] 29, obC b14 [.bool (0, false).2] 4]) () hH
 obtain ⟨z68, hz68, hm⟩ := Bs hm
 refine zfH (ι := Nat × (Nat → Prop)) (fun i => ⟨22, [{ target := .collected i.1, args := #[] }], none⟩) (fun i => [(4, Pt b14), (5, Pt b19)]) (fun i w' => z68.2 ≠ some 0 ∧ Hp w.heap.size i.2 w' ((fun (s69 : (Int × Bool)) => obE (fun (i : Unit) => [obC b19 [Ii s69.1] 29, obC b14 [.bool s69.2] 4])) z68.1 :: obO i.1 (.deferred (some [])) :: []) ∧ Tr Dw w.heap.size A21 w65 i.2 w') ?_ ?_
 ·refine zl ?_
  refine zbj (Dw := Dw) (B := w.heap.size) (A := A21) (L := []) (X := zr) (fun (x78 : zr) => [.agg #[Ii x78.from_, Ii x78.to_]]) (fun (s69 : (Int × Bool)) => obE (fun (i : Unit) => [obC b19 [Ii s69.1] 29, obC b14 [.bool s69.2] 4])) (fun (x78 : zr) (s70 : (Int × Bool)) => some ((0, true), some 0)) (fun k => if k = 0 then .ret else .exit 0) (s0 := (0, false)) (zf := z68) rfl rfl rfl (by decide) (fun _ => rfl) hB hA hH72 118 _ rfl call118 ?_ ?_ ?_ ?_
  ·intro Ys yv w1 A1 L1 h1 h2 h3 h4 h0 h5
   exact (Jr (Dw := Dw) w1 h1 h2 (QD (fun (x78 : zr) (s70 : (Int × Bool)) => some ((0, true), some 0))) Ys yv h0 ((0, false), none) h5 x57.1 b58 (El.tr h59 h3) x57.2.1 b60 (El.tr h61 h3) x57.2.2 b62 (El.tr h63 h3) h4 hz68).mono fun _ _ ⟨A3, _, hh, tt⟩ => ⟨A3, tt, hh⟩
  ·intro l73 rc74 w75 A76 L77 x78 s70 s71 j79 hst80 hB81 hA82 ht83 hH84 h85
   obtain ⟨_, hH84⟩ := Hp.open hH84
   replace hB := Bx hB ht83; replace hA := ht83.new; replace hH := hH84
   have hr86 : Tr Dw w.heap.size A76 w75 A76 w75 := Tr.refl (Dw := Dw) hA
   show C _ _ _ _ _ _
   refine qL (fun a ha88 => ?_)
   refine zdC (Dw := Dw) hH (i := 2) rfl hst80 hB hA (fun w89 hH90 ht91 => ?_) ha88
   replace hr86 := Tt hr86 ht91; replace hB := Bx hB ht91; replace hA := ht91.new; replace hH := hH90
   refine zl (Sr ?_)
   refine ZG (Dw := Dw) (off := 0) (ds := [.bool true]) hH (i := 1) rfl sizeOf4 rfl (Nat.le_of_ble_eq_true rfl) (by simp [Value.cells, Value.oneCell']) rfl hB hA rfl rfl ?_
   intro w92 hH93 ht94
   replace hr86 := Tt hr86 ht94; replace hB := Bx hB ht94; replace hA := ht94.new; replace hH := hH93
   refine ZG (Dw := Dw) (off := 0) (ds := [Ii 0]) hH (i := 0) rfl sizeOf29 rfl (Nat.le_of_ble_eq_true rfl) (by simp [Value.cells, Value.oneCell']) rfl hB hA rfl rfl ?_
   intro w95 hH96 ht97
   replace hr86 := Tt hr86 ht97; replace hH := hH96
   refine To ?_
   obtain ⟨rfl, rfl⟩ := Prod.mk.inj (Oi h85)
   refine jP (fun a ha98 => ?_)
   exact ⟨rfl, A76, hr86, Hp.pack (F := fun (i : Unit) => [obC b19 [Ii (0, true).1] 29, obC b14 [.bool (0, true).2] 4]) () hH⟩
  ·intro hc104 D99 w100 A101 ht102 hH103 a ha105
   exact ⟨(D99, A101), ha105.sb, (by rw [hc104]; simp), hH103, ht102⟩
  intro k106 hc104 D99 w100 A101 ht102 hH103
  by_cases hc107 : k106 = 0
  ·subst hc107
   rw [if_pos hc104] at hm
   obtain ⟨_, hH103⟩ := Hp.open hH103
   obtain ⟨hK, hB, hA⟩ := U0 ht102 hK hB
   replace hH := hH103
   show C _ _ .ret _ _ _
   obtain rfl := Oi hm
   have h108 := Hp.obj hH (i := 2) (b := D99) rfl
   obtain ⟨hH109, ht110⟩ := Hp.put (Dw := Dw) (.deferred none) hH (i := 2) (b := D99) rfl hB hA
   replace hK := Tt hK ht110
   replace hH : Hp w.heap.size A101 (World.putObj w100 D99 (.deferred none)) (obC b19 [Ii z68.1.1] 29 :: obC b14 [.bool z68.1.2] 4 :: obO D99 (.deferred none) :: []) := hH109
   refine jP ?_
   try simp only [↓ib, ↓th]
   exact zcC rfl h108 (Res.l2 results72 (RL.cell rfl (qE (Hc 0 1 hH rfl rfl) isAgg4)) (RL.cell rfl (qE (Hc 0 0 hH rfl rfl) isAgg29))) ⟨rfl, hK.kp⟩
  show C _ _ (if k106 = 0 then _ else _) _ _ _
  rw [if_neg hc107]
  refine zQ fun a ha105 => ?_
  show Exit.inBlock _ _ _ _ _
  rw [Exit.inBlock, if_pos rfl]
  exact ⟨(D99, A101), ha105.sb, (by rw [hc104]; simpa using hc107), hH103, ht102⟩
 rintro ⟨D99, A101⟩ w100 ⟨hc111, hH103, ht102⟩ a ha105
 rw [if_neg hc111] at hm
 obtain ⟨_, hH103⟩ := Hp.open hH103
 obtain ⟨hK, hB, hA⟩ := U0 ht102 hK hB
 replace hH := hH103
 refine C_at (n := ⟨22, [{ target := .collected D99, args := #[] }], none⟩) (fun _ _ => rfl) ?_ ha105
 refine Sr ?_
 refine ZG (Dw := Dw) (off := 0) (ds := [.bool false]) hH (i := 1) rfl sizeOf4 rfl (Nat.le_of_ble_eq_true rfl) (by simp [Value.cells, Value.oneCell']) rfl hB hA rfl rfl ?_
 intro w112 hH113 ht114
 obtain ⟨hK, hB, hA⟩ := U0 ht114 hK hB
 replace hH := hH113
 refine ZG (Dw := Dw) (off := 0) (ds := [Ii 0]) hH (i := 0) rfl sizeOf29 rfl (Nat.le_of_ble_eq_true rfl) (by simp [Value.cells, Value.oneCell']) rfl hB hA rfl rfl ?_
 intro w115 hH116 ht117
 obtain ⟨hK, hB, hA⟩ := U0 ht117 hK hB
 replace hH := hH116
 refine To ?_
 obtain rfl := Oi hm
 have h118 := Hp.obj hH (i := 2) (b := D99) rfl
 obtain ⟨hH119, ht120⟩ := Hp.put (Dw := Dw) (.deferred none) hH (i := 2) (b := D99) rfl hB hA
 replace hK := Tt hK ht120
 replace hH : Hp w.heap.size A101 (World.putObj w115 D99 (.deferred none)) (obC b19 [Ii 0] 29 :: obC b14 [.bool false] 4 :: obO D99 (.deferred none) :: []) := hH119
 refine jP ?_
 try simp only [↓ib, ↓th]
 exact zcC rfl h118 (Res.l2 results72 (RL.cell rfl (qE (Hc 0 1 hH rfl rfl) isAgg4)) (RL.cell rfl (qE (Hc 0 0 hH rfl rfl) isAgg29))) ⟨rfl, hK.kp⟩
theorem zfb (w : World) {A : Nat → Prop} (hA : ∀ b, w.heap.size ≤ b → A b) (c : zg) (v_c0 : Value) (h_c0 : Sl A w v_c0 c.zone.changes) (v_c1 : Value) (h_c1 : Sl A w v_c1 c.week) (v_c2 : Value) (h_c2 : Sl A w v_c2 c.specials) (m : Int) {r : (Int × Int)} (hm : qp c m = some r) : Ret prog 111 #[.agg #[Ii c.zone.offset, v_c0, v_c1, v_c2], Ii m] w fun v w' => v = .tuple #[Ii r.1, Ii r.2] ∧ Kp Dw w w' := by
 unfold qp at hm
 refine zfI func111 rfl ntmps111 rfl ?_
 have hA0 := hA
 obtain ⟨hB, hK, hH⟩ := St (Dw := Dw) hA
 refine Sr ?_
 refine Zy rfl rfl ?_
 intro b7 w9 h10
 have hk12 := h10.kp (Dw := Dw)
 have h11 : El (α := zg) A w9 b7 0 c := h10.el hA ⟨[Ii c.zone.offset, v_c0], _, rfl, ⟨[Ii c.zone.offset], _, rfl, rfl, ⟨_, rfl, h_c0⟩⟩, ⟨[v_c1], _, rfl, ⟨_, rfl, h_c1⟩, ⟨_, rfl, h_c2⟩⟩⟩
 have ht13 := Kp.tr hk12 hA hB; replace hH := Hp.kp hH hk12
 obtain ⟨hK, hB, hA⟩ := U0 ht13 hK hB
 refine zhP (Dw := Dw) (B := w.heap.size) hH rfl hB hA rfl ?_
 intro b14 w15 A16 hH17 ht18
 replace h11 := El.tr h11 ht18
 obtain ⟨hK, hB, hA⟩ := U0 ht18 hK hB
 replace hH := hH17
 refine As (As (To ?_))
 refine zh (zh ?_)
 refine ZZ (Dw := Dw) 4 zH (by kernel_rfl) ?_
 simp only [List.take, List.drop]
 obtain ⟨v19, v21, v23, h25, h20, h22, h24⟩ := Zg h11
 refine Qv (fun w' hw' => zx (At.kp h25 hw' h11.2.1) isAgg71 sizeOf71 rfl) ?_
 obtain ⟨x26, hx26, hm⟩ := Bs hm
 refine Qo (Ii x26) call51 rfl rfl rfl rfl (fun w' hw' => (jQ (Dw := Dw) w' (fun b hb => hA b (Nat.le_trans hw'.size hb)) c v19 (Sl.kp h20 hw') v21 (Sl.kp h22 hw') v23 (Sl.kp h24 hw') hx26).mono (fun _ _ h => ⟨h.1, Kp.trans (Dw := Dw) hw' h.2⟩)) ?_
 refine Qc (Hc 0 0 hH rfl rfl) isAgg3 ?_
 refine Qo (Ii (Zm m)) call92 rfl rfl rfl rfl (fun w' hw' => (zbW w' m).mono (fun _ _ h => ⟨h.1, h.2 ▸ hw'⟩)) ?_
 refine QU (fun w27 hk28 => ?_)
 try simp only [List.take, List.drop]
 have ht29 := Kp.tr hk28 hA hB; replace hH := Hp.kp hH hk28; replace h11 := El.tr h11 ht29
 obtain ⟨hK, hB, hA⟩ := U0 ht29 hK hB
 refine zX (Dw := Dw) (cells := #[Ii x26, Ii (Zm m)]) (l := ([x26, (Zm m)] : List Int)) (len := 2) underlying150 sizeOf29 zeroValue29 rfl (by generalize ((Zm m) : Int) = z34; kernel_rfl) (show (2 * 1 : Nat) ≠ 0 by decide) (show (2 * 1 : Nat) ≤ 2 ^ 24 by decide) hA ⟨[Ii x26], _, rfl, rfl, ⟨[Ii (Zm m)], _, rfl, rfl, rfl⟩⟩ rfl rfl ?_
 intro v30 w31 hk33 h32
 have ht35 := Kp.tr hk33 hA hB; replace hH := Hp.kp hH hk33; replace h11 := El.tr h11 ht35
 obtain ⟨hK, hB, hA⟩ := U0 ht35 hK hB
 obtain ⟨x36, hx36, hm⟩ := Bs hm
 refine Vc call68 (Qs w31 ([x26, (Zm m)] : List Int) v30 h32 hx36) ?_
 rintro _ _ ⟨rfl, rfl⟩
 refine As (To ?_)
 refine Sr (Mm (Vy (ZW rfl rfl) (To ?_)))
 refine Cc (fun hc37 => ?_) fun hc37 => ?_
 ·rw [if_pos hc37] at hm
  refine Sr (Mm (As (As (To ?_))))
  obtain rfl := Oi hm
  refine jP ?_
  try simp only [↓ib, ↓th]
  exact retM rfl (Res.two results111 rfl rfl) ⟨rfl, hK.kp⟩
 rw [if_neg (nt hc37)] at hm
 refine Sk ?_
 refine zh (Sr ?_)
 obtain ⟨v38, v40, v42, h44, h39, h41, h43⟩ := Zg h11
 refine Vy (zx h44 isAgg71 sizeOf71 rfl) (Ld (Hc 0 0 hH rfl rfl) isAgg3 ?_)
 obtain ⟨x45, hx45, hm⟩ := Bs hm
 refine Vc call93 (JQ (Dw := Dw) w31 hA c v38 h39 v40 h41 v42 h43 m 3000001 hx45) ?_
 rintro _ w52 ⟨b46, b48, b50, rfl, h47, h49, h51, hk53⟩
 have ht54 := Kp.tr hk53 hA hB; replace hH := Hp.kp hH hk53
 obtain ⟨hK, hB, hA⟩ := U0 ht54 hK hB
 refine To ?_
 have hH59 : Hp w.heap.size A16 w52 ((fun (s56 : Int) => obE (fun (i : Unit) => [obC b14 [Ii s56] 3])) m :: []) := Hp.pack (F := fun (i : Unit) => [obC b14 [Ii m] 3]) () hH
 obtain ⟨z55, hz55, hm⟩ := Bs hm
 refine zfH (ι := Nat × (Nat → Prop)) (fun i => ⟨30, [{ target := .collected i.1, args := #[] }], none⟩) (fun i => [(3, Pt b14)]) (fun i w' => Hp w.heap.size i.2 w' ((fun (s56 : Int) => obE (fun (i : Unit) => [obC b14 [Ii s56] 3])) z55.1 :: obO i.1 (.deferred (some [])) :: []) ∧ Tr Dw w.heap.size A16 w52 i.2 w') ?_ ?_
 ·refine zl ?_
  refine zbj (Dw := Dw) (B := w.heap.size) (A := A16) (L := []) (X := zr) (fun (x65 : zr) => [.agg #[Ii x65.from_, Ii x65.to_]]) (fun (s56 : Int) => obE (fun (i : Unit) => [obC b14 [Ii s56] 3])) (fun (x65 : zr) (s57 : Int) => Option.bind (if (x65.from_ == s57) = true then some x65.to_ else some s57) fun s89 => some (s89, some 1)) (fun _ => .exit 0) (s0 := m) (zf := z55) rfl rfl rfl (by decide) (fun _ => rfl) hB hA hH59 118 _ rfl call118 ?_ ?_ ?_ ?_
  ·intro Ys yv w1 A1 L1 h1 h2 h3 h4 h0 h5
   exact (Jr (Dw := Dw) w1 h1 h2 (QD (fun (x65 : zr) (s57 : Int) => Option.bind (if (x65.from_ == s57) = true then some x65.to_ else some s57) fun s89 => some (s89, some 1))) Ys yv h0 (m, none) h5 x45.1 b46 (El.tr h47 h3) x45.2.1 b48 (El.tr h49 h3) x45.2.2 b50 (El.tr h51 h3) h4 hz55).mono fun _ _ ⟨A3, _, hh, tt⟩ => ⟨A3, tt, hh⟩
  ·intro l60 rc61 w62 A63 L64 x65 s57 s58 j66 hst67 hB68 hA69 ht70 hH71 h72
   obtain ⟨_, hH71⟩ := Hp.open hH71
   replace hB := Bx hB ht70; replace hA := ht70.new; replace hH := hH71
   have hr73 : Tr Dw w.heap.size A63 w62 A63 w62 := Tr.refl (Dw := Dw) hA
   show C _ _ _ _ _ _
   refine zo ?_
   refine Zf zeroValue189 rfl ?_
   intro b75 w76 h77
   refine Sn h77 sizeOf189 ?_
   intro w78 h79
   have hk81 := h79.kp (Dw := Dw)
   have h80 : El (α := zr) A63 w78 b75 0 x65 := h79.el hA ⟨[Ii x65.from_], _, rfl, rfl, rfl⟩
   have ht82 := Kp.tr hk81 hA hB; replace hH := Hp.kp hH hk81; replace hr73 := Tt hr73 ht82; replace hB := Bx hB ht82; replace hA := ht82.new
   refine zn (fun a ha83 => ?_)
   refine zdC (Dw := Dw) hH (i := 1) rfl hst67 hB hA (fun w84 hH85 ht86 => ?_) ha83
   replace h80 := El.tr h80 ht86; replace hr73 := Tt hr73 ht86; replace hB := Bx hB ht86; replace hA := ht86.new; replace hH := hH85
   refine zl (zh (Sr ?_))
   have h87 := zat h80
   refine Fa underlying189 rfl sizeOf3 (Li h87 isAgg3 (Ld (Hc 0 0 hH rfl rfl) isAgg3 (Vy (ql rfl rfl) (To ?_))))
   obtain ⟨s89, ho88, h72⟩ := Bs h72
   refine zu (ι := (Nat → Prop)) (fun (A94 : (Nat → Prop)) => [(3, Pt b14)]) (fun (A94 : (Nat → Prop)) => fun w' => Hp w.heap.size A94 w' (obC b14 [Ii s89] 3 :: obO l60 (.loop { rc61 with state := .busy }) :: L64) ∧ Tr Dw w.heap.size A63 w84 A94 w') ?_ ?_
   ·have hr90 : Tr Dw w.heap.size A63 w84 A63 w84 := Tr.refl (Dw := Dw) hA
    refine Cc (fun hc96 => ?_) fun hc96 => ?_
    ·rw [if_pos hc96] at ho88
     refine zo ?_
     have h97 := zbz h80
     refine Fa underlying189 rfl sizeOf3 (Li h97 isAgg3 ?_)
     refine ZG (Dw := Dw) (off := 0) (ds := [Ii x65.to_]) hH (i := 0) rfl sizeOf3 rfl (Nat.le_of_ble_eq_true rfl) (by simp [Value.cells, Value.oneCell']) rfl hB hA rfl rfl ?_
     intro w98 hH99 ht100
     replace hr90 := Tt hr90 ht100; replace hH := hH99
     obtain rfl := Oi ho88
     refine zn (fun a ha101 => ?_)
     exact ⟨A63, ha101.sb, ⟨hH, hr90⟩⟩
    rw [if_neg (nt hc96)] at ho88
    obtain rfl := Oi ho88
    refine qL (fun a ha102 => ?_)
    exact ⟨A63, ha102.sb, ⟨hH, hr90⟩⟩
   rintro A94 w91 ⟨hH95, hk92⟩ a ha93
   replace hr73 := Tr.trans hr73 hk92; replace hA := hk92.new; replace hH := hH95
   refine C_at (n := ⟨30, [], (some l60)⟩) (fun _ _ => rfl) ?_ ha93
   obtain ⟨rfl, rfl⟩ := Prod.mk.inj (Oi h72)
   refine zQ (fun a ha103 => ?_)
   exact ⟨rfl, A94, hr73, Hp.pack (F := fun (i : Unit) => [obC b14 [Ii s89] 3]) () hH⟩
  ·intro hc109 D104 w105 A106 ht107 hH108 a ha110
   exact ⟨(D104, A106), ha110.sb, hH108, ht107⟩
  intro k111 hc109 D104 w105 A106 ht107 hH108
  refine zQ fun a ha110 => ?_
  show Exit.inBlock _ _ _ _ _
  rw [Exit.inBlock, if_pos rfl]
  exact ⟨(D104, A106), ha110.sb, hH108, ht107⟩
 rintro ⟨D104, A106⟩ w105 ⟨hH108, ht107⟩ a ha110
 obtain ⟨_, hH108⟩ := Hp.open hH108
 obtain ⟨hK, hB, hA⟩ := U0 ht107 hK hB
 replace hH := hH108
 refine C_at (n := ⟨30, [{ target := .collected D104, args := #[] }], none⟩) (fun _ _ => rfl) ?_ ha110
 refine zh (Sr (Ld (Hc 0 0 hH rfl rfl) isAgg3 (Vy (qz rfl rfl) (To ?_))))
 refine Cc (fun hc114 => ?_) fun hc114 => ?_
 ·rw [if_pos hc114] at hm
  refine Sr (As (As (To ?_)))
  obtain rfl := Oi hm
  have h115 := Hp.obj hH (i := 1) (b := D104) rfl
  obtain ⟨hH116, ht117⟩ := Hp.put (Dw := Dw) (.deferred none) hH (i := 1) (b := D104) rfl hB hA
  replace hK := Tt hK ht117
  replace hH : Hp w.heap.size A106 (World.putObj w105 D104 (.deferred none)) (obC b14 [Ii z55.1] 3 :: obO D104 (.deferred none) :: []) := hH116
  refine jP ?_
  try simp only [↓ib, ↓th]
  exact zcC rfl h115 (Res.two results111 rfl rfl) ⟨rfl, hK.kp⟩
 rw [if_neg (nt hc114)] at hm
 refine Sk ?_
 refine Sr (Ld (Hc 0 0 hH rfl rfl) isAgg3 (As (As (To ?_))))
 obtain rfl := Oi hm
 have h118 := Hp.obj hH (i := 1) (b := D104) rfl
 obtain ⟨hH119, ht120⟩ := Hp.put (Dw := Dw) (.deferred none) hH (i := 1) (b := D104) rfl hB hA
 replace hK := Tt hK ht120
 replace hH : Hp w.heap.size A106 (World.putObj w105 D104 (.deferred none)) (obC b14 [Ii z55.1] 3 :: obO D104 (.deferred none) :: []) := hH119
 refine jP ?_
 try simp only [↓ib, ↓th]
 exact zcC rfl h118 (Res.two results111 rfl rfl) ⟨rfl, hK.kp⟩
theorem zfS (w : World) {A : Nat → Prop} (hA : ∀ b, w.heap.size ≤ b → A b) (c : zg) (v_c0 : Value) (h_c0 : Sl A w v_c0 c.zone.changes) (v_c1 : Value) (h_c1 : Sl A w v_c1 c.week) (v_c2 : Value) (h_c2 : Sl A w v_c2 c.specials) (m : Int) {r : (Int × Int)} (hm : QJ c m = some r) : Ret prog 112 #[.agg #[Ii c.zone.offset, v_c0, v_c1, v_c2], Ii m] w fun v w' => v = .tuple #[Ii r.1, Ii r.2] ∧ Kp Dw w w' := by
 unfold QJ at hm
 refine zfI func112 rfl ntmps112 rfl ?_
 have hA0 := hA
 obtain ⟨hB, hK, hH⟩ := St (Dw := Dw) hA
 refine Sr ?_
 refine Zy rfl rfl ?_
 intro b7 w9 h10
 have hk12 := h10.kp (Dw := Dw)
 have h11 : El (α := zg) A w9 b7 0 c := h10.el hA ⟨[Ii c.zone.offset, v_c0], _, rfl, ⟨[Ii c.zone.offset], _, rfl, rfl, ⟨_, rfl, h_c0⟩⟩, ⟨[v_c1], _, rfl, ⟨_, rfl, h_c1⟩, ⟨_, rfl, h_c2⟩⟩⟩
 have ht13 := Kp.tr hk12 hA hB; replace hH := Hp.kp hH hk12
 obtain ⟨hK, hB, hA⟩ := U0 ht13 hK hB
 refine Jj (Dw := Dw) (B := w.heap.size) hH zeroValue3 hB hA rfl ?_
 intro b14 w15 A16 hH17 ht18
 replace h11 := El.tr h11 ht18
 obtain ⟨hK, hB, hA⟩ := U0 ht18 hK hB
 replace hH := hH17
 refine Jj (Dw := Dw) (B := w.heap.size) hH zeroValue29 hB hA rfl ?_
 intro b19 w20 A21 hH22 ht23
 replace h11 := El.tr h11 ht23
 obtain ⟨hK, hB, hA⟩ := U0 ht23 hK hB
 replace hH := hH22
 refine To ?_
 refine zh (Sr ?_)
 obtain ⟨v24, v26, v28, h30, h25, h27, h29⟩ := Zg h11
 refine Vy (zx h30 isAgg71 sizeOf71 rfl) ?_
 obtain ⟨x31, hx31, hm⟩ := Bs hm
 refine Vc call51 (jQ (Dw := Dw) w20 hA c v24 h25 v26 h27 v28 h29 hx31) ?_
 rintro _ w33 ⟨rfl, hk34⟩
 have ht35 := Kp.tr hk34 hA hB; replace hH := Hp.kp hH hk34; replace h11 := El.tr h11 ht35
 obtain ⟨hK, hB, hA⟩ := U0 ht35 hK hB
 refine Mm ?_
 refine Vc call92 (zbW w33 m) ?_
 rintro _ _ ⟨rfl, rfl⟩
 refine zX (Dw := Dw) (cells := #[Ii x31, Ii (Zm m)]) (l := ([x31, (Zm m)] : List Int)) (len := 2) underlying150 sizeOf29 zeroValue29 rfl (by generalize ((Zm m) : Int) = z40; kernel_rfl) (show (2 * 1 : Nat) ≠ 0 by decide) (show (2 * 1 : Nat) ≤ 2 ^ 24 by decide) hA ⟨[Ii x31], _, rfl, rfl, ⟨[Ii (Zm m)], _, rfl, rfl, rfl⟩⟩ rfl rfl ?_
 intro v36 w37 hk39 h38
 have ht41 := Kp.tr hk39 hA hB; replace hH := Hp.kp hH hk39; replace h11 := El.tr h11 ht41
 obtain ⟨hK, hB, hA⟩ := U0 ht41 hK hB
 obtain ⟨x42, hx42, hm⟩ := Bs hm
 refine Vc call68 (Qs w37 ([x31, (Zm m)] : List Int) v36 h38 hx42) ?_
 rintro _ _ ⟨rfl, rfl⟩
 refine As (To ?_)
 refine Sr (Mm (Vy (ZW rfl rfl) (To ?_)))
 refine Cc (fun hc43 => ?_) fun hc43 => ?_
 ·rw [if_pos hc43] at hm
  refine Sr (Mm ?_)
  refine ZG (Dw := Dw) (off := 0) (ds := [Ii 0]) hH (i := 1) rfl sizeOf3 rfl (Nat.le_of_ble_eq_true rfl) (by simp [Value.cells, Value.oneCell']) rfl hB hA rfl rfl ?_
  intro w44 hH45 ht46
  obtain ⟨hK, hB, hA⟩ := U0 ht46 hK hB
  replace hH := hH45
  refine ZG (Dw := Dw) (off := 0) (ds := [Ii x42]) hH (i := 0) rfl sizeOf29 rfl (Nat.le_of_ble_eq_true rfl) (by simp [Value.cells, Value.oneCell']) rfl hB hA rfl rfl ?_
  intro w47 hH48 ht49
  replace hK := Tt hK ht49; replace hH := hH48
  refine To ?_
  obtain rfl := Oi hm
  refine jP ?_
  try simp only [↓ib, ↓th]
  exact retM rfl (Res.l2 results112 (RL.cell rfl (qE (Hc 0 1 hH rfl rfl) isAgg3)) (RL.cell rfl (qE (Hc 0 0 hH rfl rfl) isAgg29))) ⟨rfl, hK.kp⟩
 rw [if_neg (nt hc43)] at hm
 refine Sk ?_
 refine zh (Sr ?_)
 obtain ⟨v50, v52, v54, h56, h51, h53, h55⟩ := Zg h11
 refine Vy (zx h56 isAgg71 sizeOf71 rfl) (Mm ?_)
 obtain ⟨x57, hx57, hm⟩ := Bs hm
 refine Vc call93 (JQ (Dw := Dw) w37 hA c v50 h51 v52 h53 v54 h55 m 3000001 hx57) ?_
 rintro _ w65 ⟨b58, b60, b62, rfl, h59, h61, h63, hk66⟩
 have ht67 := Kp.tr hk66 hA hB; replace hH := Hp.kp hH hk66
 obtain ⟨hK, hB, hA⟩ := U0 ht67 hK hB
 refine To ?_
 have hH72 : Hp w.heap.size A21 w65 ((fun (s69 : (Int × Int)) => obE (fun (i : Unit) => [obC b19 [Ii s69.1] 29, obC b14 [Ii s69.2] 3])) (0, 0) :: []) := Hp.pack (F := fun (i : Unit) => [obC b19 [Ii (0, 0).1] 29, obC b14 [Ii (0, 0).2] 3]) () hH
 obtain ⟨z68, hz68, hm⟩ := Bs hm
 refine zfH (ι := Nat × (Nat → Prop)) (fun i => ⟨23, [{ target := .collected i.1, args := #[] }], none⟩) (fun i => [(4, Pt b14), (5, Pt b19)]) (fun i w' => z68.2 ≠ some 0 ∧ Hp w.heap.size i.2 w' ((fun (s69 : (Int × Int)) => obE (fun (i : Unit) => [obC b19 [Ii s69.1] 29, obC b14 [Ii s69.2] 3])) z68.1 :: obO i.1 (.deferred (some [])) :: []) ∧ Tr Dw w.heap.size A21 w65 i.2 w') ?_ ?_
 ·refine zl ?_
  refine zbj (Dw := Dw) (B := w.heap.size) (A := A21) (L := []) (X := zr) (fun (x78 : zr) => [.agg #[Ii x78.from_, Ii x78.to_]]) (fun (s69 : (Int × Int)) => obE (fun (i : Unit) => [obC b19 [Ii s69.1] 29, obC b14 [Ii s69.2] 3])) (fun (x78 : zr) (s70 : (Int × Int)) => some ((0, x78.from_), some 0)) (fun k => if k = 0 then .ret else .exit 0) (s0 := (0, 0)) (zf := z68) rfl rfl rfl (by decide) (fun _ => rfl) hB hA hH72 118 _ rfl call118 ?_ ?_ ?_ ?_
  ·intro Ys yv w1 A1 L1 h1 h2 h3 h4 h0 h5
   exact (Jr (Dw := Dw) w1 h1 h2 (QD (fun (x78 : zr) (s70 : (Int × Int)) => some ((0, x78.from_), some 0))) Ys yv h0 ((0, 0), none) h5 x57.1 b58 (El.tr h59 h3) x57.2.1 b60 (El.tr h61 h3) x57.2.2 b62 (El.tr h63 h3) h4 hz68).mono fun _ _ ⟨A3, _, hh, tt⟩ => ⟨A3, tt, hh⟩
  ·intro l73 rc74 w75 A76 L77 x78 s70 s71 j79 hst80 hB81 hA82 ht83 hH84 h85
   obtain ⟨_, hH84⟩ := Hp.open hH84
   replace hB := Bx hB ht83; replace hA := ht83.new; replace hH := hH84
   have hr86 : Tr Dw w.heap.size A76 w75 A76 w75 := Tr.refl (Dw := Dw) hA
   show C _ _ _ _ _ _
   refine zo ?_
   refine Zf zeroValue189 rfl ?_
   intro b88 w89 h90
   refine Sn h90 sizeOf189 ?_
   intro w91 h92
   have hk94 := h92.kp (Dw := Dw)
   have h93 : El (α := zr) A76 w91 b88 0 x78 := h92.el hA ⟨[Ii x78.from_], _, rfl, rfl, rfl⟩
   have ht95 := Kp.tr hk94 hA hB; replace hH := Hp.kp hH hk94; replace hr86 := Tt hr86 ht95; replace hB := Bx hB ht95; replace hA := ht95.new
   refine zn (fun a ha96 => ?_)
   refine zdC (Dw := Dw) hH (i := 2) rfl hst80 hB hA (fun w97 hH98 ht99 => ?_) ha96
   replace h93 := El.tr h93 ht99; replace hr86 := Tt hr86 ht99; replace hB := Bx hB ht99; replace hA := ht99.new; replace hH := hH98
   refine zl (Sr ?_)
   have h100 := zat h93
   refine Fa underlying189 rfl sizeOf3 (Li h100 isAgg3 ?_)
   refine ZG (Dw := Dw) (off := 0) (ds := [Ii x78.from_]) hH (i := 1) rfl sizeOf3 rfl (Nat.le_of_ble_eq_true rfl) (by simp [Value.cells, Value.oneCell']) rfl hB hA rfl rfl ?_
   intro w101 hH102 ht103
   replace hr86 := Tt hr86 ht103; replace hB := Bx hB ht103; replace hA := ht103.new; replace hH := hH102
   refine ZG (Dw := Dw) (off := 0) (ds := [Ii 0]) hH (i := 0) rfl sizeOf29 rfl (Nat.le_of_ble_eq_true rfl) (by simp [Value.cells, Value.oneCell']) rfl hB hA rfl rfl ?_
   intro w104 hH105 ht106
   replace hr86 := Tt hr86 ht106; replace hH := hH105
   refine To ?_
   obtain ⟨rfl, rfl⟩ := Prod.mk.inj (Oi h85)
   refine jP (fun a ha107 => ?_)
   exact ⟨rfl, A76, hr86, Hp.pack (F := fun (i : Unit) => [obC b19 [Ii (0, x78.from_).1] 29, obC b14 [Ii (0, x78.from_).2] 3]) () hH⟩
  ·intro hc113 D108 w109 A110 ht111 hH112 a ha114
   exact ⟨(D108, A110), ha114.sb, (by rw [hc113]; simp), hH112, ht111⟩
  intro k115 hc113 D108 w109 A110 ht111 hH112
  by_cases hc116 : k115 = 0
  ·subst hc116
   rw [if_pos hc113] at hm
   obtain ⟨_, hH112⟩ := Hp.open hH112
   obtain ⟨hK, hB, hA⟩ := U0 ht111 hK hB
   replace hH := hH112
   show C _ _ .ret _ _ _
   obtain rfl := Oi hm
   have h117 := Hp.obj hH (i := 2) (b := D108) rfl
   obtain ⟨hH118, ht119⟩ := Hp.put (Dw := Dw) (.deferred none) hH (i := 2) (b := D108) rfl hB hA
   replace hK := Tt hK ht119
   replace hH : Hp w.heap.size A110 (World.putObj w109 D108 (.deferred none)) (obC b19 [Ii z68.1.1] 29 :: obC b14 [Ii z68.1.2] 3 :: obO D108 (.deferred none) :: []) := hH118
   refine jP ?_
   try simp only [↓ib, ↓th]
   exact zcC rfl h117 (Res.l2 results112 (RL.cell rfl (qE (Hc 0 1 hH rfl rfl) isAgg3)) (RL.cell rfl (qE (Hc 0 0 hH rfl rfl) isAgg29))) ⟨rfl, hK.kp⟩
  show C _ _ (if k115 = 0 then _ else _) _ _ _
  rw [if_neg hc116]
  refine zQ fun a ha114 => ?_
  show Exit.inBlock _ _ _ _ _
  rw [Exit.inBlock, if_pos rfl]
  exact ⟨(D108, A110), ha114.sb, (by rw [hc113]; simpa using hc116), hH112, ht111⟩
 rintro ⟨D108, A110⟩ w109 ⟨hc120, hH112, ht111⟩ a ha114
 rw [if_neg hc120] at hm
 obtain ⟨_, hH112⟩ := Hp.open hH112
 obtain ⟨hK, hB, hA⟩ := U0 ht111 hK hB
 replace hH := hH112
 refine C_at (n := ⟨23, [{ target := .collected D108, args := #[] }], none⟩) (fun _ _ => rfl) ?_ ha114
 refine Sr ?_
 refine ZG (Dw := Dw) (off := 0) (ds := [Ii 0]) hH (i := 1) rfl sizeOf3 rfl (Nat.le_of_ble_eq_true rfl) (by simp [Value.cells, Value.oneCell']) rfl hB hA rfl rfl ?_
 intro w121 hH122 ht123
 obtain ⟨hK, hB, hA⟩ := U0 ht123 hK hB
 replace hH := hH122
 refine ZG (Dw := Dw) (off := 0) (ds := [Ii 7]) hH (i := 0) rfl sizeOf29 rfl (Nat.le_of_ble_eq_true rfl) (by simp [Value.cells, Value.oneCell']) rfl hB hA rfl rfl ?_
 intro w124 hH125 ht126
 obtain ⟨hK, hB, hA⟩ := U0 ht126 hK hB
 replace hH := hH125
 refine To ?_
 obtain rfl := Oi hm
 have h127 := Hp.obj hH (i := 2) (b := D108) rfl
 obtain ⟨hH128, ht129⟩ := Hp.put (Dw := Dw) (.deferred none) hH (i := 2) (b := D108) rfl hB hA
 replace hK := Tt hK ht129
 replace hH : Hp w.heap.size A110 (World.putObj w124 D108 (.deferred none)) (obC b19 [Ii 7] 29 :: obC b14 [Ii 0] 3 :: obO D108 (.deferred none) :: []) := hH128
 refine jP ?_
 try simp only [↓ib, ↓th]
 exact zcC rfl h127 (Res.l2 results112 (RL.cell rfl (qE (Hc 0 1 hH rfl rfl) isAgg3)) (RL.cell rfl (qE (Hc 0 0 hH rfl rfl) isAgg29))) ⟨rfl, hK.kp⟩
theorem zcN (w : World) {A : Nat → Prop} {B : Nat} (hB : B ≤ w.heap.size) (hA : ∀ b, w.heap.size ≤ b → A b) (r_ : ze) (b_r_ : Nat) (v_r_0 : Value) (h_r_0 : Sl A w v_r_0 r_.assigner.people) (v_r_1 : Value) (h_r_1 : Sl A w v_r_1 r_.assigner.cals) (v_r_2 : Value) (h_r_2 : Sl A w v_r_2 r_.assigner.steps) (v_r_3 : Value) (v_r_4 : Value) (h_r_4 : Sl A w v_r_4 r_.waiting) (v_r_5 : Value) (h_r_5 : Sl A w v_r_5 r_.held) (m_r_0 : Nat) (m : Int) {L : List Ob} (hH : Hp B A w (obC b_r_ [v_r_0, v_r_1, v_r_2, v_r_3, Ii r_.now, v_r_4, v_r_5, .map (some m_r_0)] 58 :: o_4 v_r_3 r_.assigner.away :: obRM (κ := Int) (α := za) m_r_0 r_.work :: L)) {r : Int} (hm : QQ r_ m = some r) : Ret prog 85 #[Pt b_r_, Ii m] w fun v w' => ∃ A1 : Nat → Prop, v = Ii r ∧ Hp B A1 w' (obC b_r_ [v_r_0, v_r_1, v_r_2, v_r_3, Ii r_.now, v_r_4, v_r_5, .map (some m_r_0)] 58 :: o_4 v_r_3 r_.assigner.away :: obRM (κ := Int) (α := za) m_r_0 r_.work :: L) ∧ Tr Dw B A w A1 w' := by
 unfold QQ at hm
 refine enter func85 rfl ntmps85 rfl ?_
 have hK : Tr Dw B A w A w := Tr.refl (Dw := Dw) hA
 refine Sr (As (To ?_))
 refine Sr (As (To ?_))
 refine zh ?_
 refine ZZ (Dw := Dw) 9 zH (by kernel_rfl) ?_
 simp only [List.take, List.drop]
 refine Qm (Qn (Qv (fun w' hw' => Fc 0 underlying58 rfl sizeOf56 rfl rfl) (Qv (fun w' hw' => Fc 0 underlying56 rfl sizeOf22 rfl rfl) (Qc (Hc 0 0 hH rfl rfl) isAgg22 (Qm (Qn (Qv (fun w' hw' => Fc 6 underlying58 rfl sizeOf34 rfl rfl) (Qc (Hc 6 0 hH rfl rfl) isAgg34 ?_))))))))
 refine QU (fun w14 hk15 => ?_)
 try simp only [List.take, List.drop]
 have ht16 := Kp.tr hk15 hA hB; replace hH := Hp.kp hH hk15
 obtain ⟨h_r_0, h_r_5, h_r_1, hK, hB, hA⟩ := U3 ht16 hK hB h_r_0 h_r_5 h_r_1
 obtain ⟨x17, hx17, hm⟩ := Bs hm
 refine Vc call75 (Qu (Dw := Dw) w14 hA r_.assigner.people v_r_0 h_r_0 r_.held v_r_5 h_r_5 hx17) ?_
 rintro v18 w20 ⟨_, rfl, h19, hk21⟩
 obtain ⟨A22, ht23, hH24⟩ := Hp.addOwnd (Dw := Dw) hH hB hA hk21 h19
 obtain ⟨h_r_0, h_r_1, hK, hB, hA⟩ := U2 ht23 hK hB h_r_0 h_r_1
 replace hH := hH24
 refine As (To ?_)
 refine zh (Sr (Mm (Nc (Vy (Fc 0 underlying58 rfl sizeOf56 rfl rfl) (Vy (Fc 1 underlying56 rfl sizeOf23 rfl rfl) (Ld (Hc 1 1 hH rfl rfl) isAgg23 (Vy (zA h_r_1 rfl underlying23 rfl) (Mm (To ?_)))))))))
 have hn45 := Sl.le h_r_1
 obtain ⟨o25, ho25, hm⟩ := Bs hm
 refine zu (ι := (Int × (Nat → Prop))) (fun ⟨s26, A32⟩ => [(5, Ii s26)]) (fun ⟨s26, A32⟩ => fun w' => o25 = .fin s26 ∧ Hp B A32 w' (o_3 v18 x17 :: obC b_r_ [v_r_0, v_r_1, v_r_2, v_r_3, Ii r_.now, v_r_4, v_r_5, .map (some m_r_0)] 58 :: o_4 v_r_3 r_.assigner.away :: obRM (κ := Int) (α := za) m_r_0 r_.work :: L) ∧ Tr Dw B A22 w20 A32 w') ?_ ?_
 ·refine zl ?_
  refine zS ho25 (fun k28 s34 a w' => ∃ i : (Nat → Prop), Has ⟨112, [], none⟩ a ([(0, Pt b_r_), (1, Ii m), (5, Ii s34), (6, v18), (30, v_r_1), (31, Ii (r_.assigner.cals.length : Int)), (32, Ii (k28 : Int))]) ∧ Hp B i w' (o_3 v18 x17 :: obC b_r_ [v_r_0, v_r_1, v_r_2, v_r_3, Ii r_.now, v_r_4, v_r_5, .map (some m_r_0)] 58 :: o_4 v_r_3 r_.assigner.away :: obRM (κ := Int) (α := za) m_r_0 r_.work :: L) ∧ Tr Dw B A22 w20 i w') (fun a ha => ⟨A22, ha.sb, ⟨hH, Tr.refl (Dw := Dw) hA⟩⟩) ?_
  rintro K k28 s34 a w35 ⟨A36, ha236, hH37, hr27⟩ hle41 K44 h43
  refine C_of ?_ ha236
  replace hB := Bx hB hr27; replace hA := hr27.new
  obtain ⟨h_r_1, h_r_0⟩ := T2 hr27 h_r_1 h_r_0
  replace hH := hH37
  refine Sr (Vy (zR rfl rfl) (To ?_))
  refine zh ?_
  refine Cc (fun hc46 => ?_) fun hc46 => ?_
  ·have hlt42 := zL hc46
   obtain ⟨x38, h39, h40⟩ := K44 hlt42
   refine Sk ?_
   refine zh ?_
   obtain ⟨s48, ho47, h39⟩ := Bs h39
   refine zu (ι := (Nat → Prop)) (fun (A53 : (Nat → Prop)) => [(0, Pt b_r_), (1, Ii m), (5, Ii s48), (6, v18), (30, v_r_1), (31, Ii (r_.assigner.cals.length : Int)), (32, Ii (k28 : Int))]) (fun (A53 : (Nat → Prop)) => fun w' => Hp B A53 w' (o_3 v18 x17 :: obC b_r_ [v_r_0, v_r_1, v_r_2, v_r_3, Ii r_.now, v_r_4, v_r_5, .map (some m_r_0)] 58 :: o_4 v_r_3 r_.assigner.away :: obRM (κ := Int) (α := za) m_r_0 r_.work :: L) ∧ Tr Dw B A36 w35 A53 w') ?_ ?_
   ·have hr49 : Tr Dw B A36 w35 A36 w35 := Tr.refl (Dw := Dw) hA
    refine zl (Sr (Mm ?_))
    obtain ⟨x55, hx55, ho47⟩ := Bs ho47
    refine zy h_r_1 hx55 underlying23 sizeOf71 rfl rfl rfl ?_
    intro b56 o57 h58
    obtain ⟨v59, v61, v63, h65, h60, h62, h64⟩ := Zg h58
    refine Vy (zx h65 isAgg71 sizeOf71 rfl) ?_
    refine Zf zeroValue71 rfl ?_
    intro b66 w67 h68
    refine As ?_
    have h73 := Sl.oc h60
    have h76 := Sl.oc h62
    have h79 := Sl.oc h64
    refine Sn h68 sizeOf71 ?_
    intro w69 h70
    have hk81 := h70.kp (Dw := Dw)
    have h80 : El (α := zg) A36 w69 b66 0 x55 := h70.el hA ⟨[Ii x55.zone.offset, v59], _, rfl, ⟨[Ii x55.zone.offset], _, rfl, rfl, ⟨_, rfl, h60⟩⟩, ⟨[v61], _, rfl, ⟨_, rfl, h62⟩, ⟨_, rfl, h64⟩⟩⟩
    have ht82 := Kp.tr hk81 hA hB; replace hH := Hp.kp hH hk81; replace h_r_0 := Sl.tr h_r_0 ht82; replace hr49 := Tt hr49 ht82; replace hB := Bx hB ht82; replace hA := ht82.new
    refine To ?_
    refine Sr (As (To ?_))
    refine zh (Sr (Mm (Nc (Vy (Fc 0 underlying58 rfl sizeOf56 rfl rfl) (Vy (Fc 0 underlying56 rfl sizeOf22 rfl rfl) (Ld (Hc 0 1 hH rfl rfl) isAgg22 (Vy (zA h_r_0 rfl underlying22 rfl) (Mm (To ?_)))))))))
    have hn103 := Sl.le h_r_0
    obtain ⟨o83, ho83, ho47⟩ := Bs ho47
    refine zu (ι := (Int × (Nat → Prop))) (fun ⟨s84, A90⟩ => [(0, Pt b_r_), (1, Ii m), (5, Ii s34), (6, v18), (8, Pt b66), (9, Ii s84), (30, v_r_1), (31, Ii (r_.assigner.cals.length : Int)), (32, Ii (k28 : Int))]) (fun ⟨s84, A90⟩ => fun w' => o83 = .fin s84 ∧ Hp B A90 w' (o_3 v18 x17 :: obC b_r_ [v_r_0, v_r_1, v_r_2, v_r_3, Ii r_.now, v_r_4, v_r_5, .map (some m_r_0)] 58 :: o_4 v_r_3 r_.assigner.away :: obRM (κ := Int) (α := za) m_r_0 r_.work :: L) ∧ Tr Dw B A36 w69 A90 w') ?_ ?_
    ·refine zl ?_
     refine zS ho83 (fun k86 s92 a w' => ∃ i : (Nat → Prop), Has ⟨112, [], none⟩ a ([(0, Pt b_r_), (1, Ii m), (5, Ii s34), (6, v18), (7, Ii (k28 : Int)), (8, Pt b66), (9, Ii s92), (30, v_r_1), (31, Ii (r_.assigner.cals.length : Int)), (32, Ii (k28 : Int)), (41, v_r_0), (42, Ii (r_.assigner.people.length : Int)), (43, Ii (k86 : Int))]) ∧ Hp B i w' (o_3 v18 x17 :: obC b_r_ [v_r_0, v_r_1, v_r_2, v_r_3, Ii r_.now, v_r_4, v_r_5, .map (some m_r_0)] 58 :: o_4 v_r_3 r_.assigner.away :: obRM (κ := Int) (α := za) m_r_0 r_.work :: L) ∧ Tr Dw B A36 w69 i w') (fun a ha => ⟨A36, ha.sb, ⟨hH, Tr.refl (Dw := Dw) hA⟩⟩) ?_
     rintro K k86 s92 a w93 ⟨A94, ha162, hH95, hr85⟩ hle99 K102 h101
     refine C_of ?_ ha162
     replace h_r_0 := Sl.tr h_r_0 hr85; replace hB := Bx hB hr85; replace hA := hr85.new; replace hH := hH95
     refine Sr (Vy (zR rfl rfl) (To ?_))
     refine zh ?_
     refine Cc (fun hc104 => ?_) fun hc104 => ?_
     ·have hlt100 := zL hc104
      obtain ⟨x96, h97, h98⟩ := K102 hlt100
      refine Sk ?_
      refine zh ?_
      obtain ⟨s106, ho105, h97⟩ := Bs h97
      refine zu (ι := (Nat → Prop)) (fun (A111 : (Nat → Prop)) => [(0, Pt b_r_), (1, Ii m), (5, Ii s34), (6, v18), (7, Ii (k28 : Int)), (8, Pt b66), (9, Ii s106), (30, v_r_1), (31, Ii (r_.assigner.cals.length : Int)), (32, Ii (k28 : Int)), (41, v_r_0), (42, Ii (r_.assigner.people.length : Int)), (43, Ii (k86 : Int))]) (fun (A111 : (Nat → Prop)) => fun w' => Hp B A111 w' (o_3 v18 x17 :: obC b_r_ [v_r_0, v_r_1, v_r_2, v_r_3, Ii r_.now, v_r_4, v_r_5, .map (some m_r_0)] 58 :: o_4 v_r_3 r_.assigner.away :: obRM (κ := Int) (α := za) m_r_0 r_.work :: L) ∧ Tr Dw B A94 w93 A111 w') ?_ ?_
      ·have hr107 : Tr Dw B A94 w93 A94 w93 := Tr.refl (Dw := Dw) hA
       refine zl (Sr (Mm ?_))
       obtain ⟨x113, hx113, ho105⟩ := Bs ho105
       refine zy h_r_0 hx113 underlying22 sizeOf61 rfl rfl rfl ?_
       intro b114 o115 h116
       obtain ⟨v117, h119, h118⟩ := Zo h116
       refine Vy (zx h119 isAgg61 sizeOf61 rfl) ?_
       refine Zf zeroValue61 rfl ?_
       intro b120 w121 h122
       refine As ?_
       have h127 := Sl.oc h118
       refine Sn h122 sizeOf61 ?_
       intro w123 h124
       have hk129 := h124.kp (Dw := Dw)
       have h128 : El (α := zd) A94 w123 b120 0 x113 := h124.el hA ⟨[Ii x113.no], _, rfl, rfl, ⟨[Ii x113.capacity], _, rfl, rfl, ⟨[Ii x113.calendar], _, rfl, rfl, ⟨_, rfl, h118⟩⟩⟩⟩
       have ht130 := Kp.tr hk129 hA hB; replace hH := Hp.kp hH hk129; replace hr107 := Tt hr107 ht130; replace hB := Bx hB ht130; replace hA := ht130.new
       refine To ?_
       refine zh ?_
       refine ZR (Dw := Dw) zH (by kernel_rfl) ?_
       have h131 := ju h128
       refine Qf underlying61 rfl sizeOf3 (Qi h131 isAgg3 (Qm (Qv (fun w' hw' => ql rfl rfl) (Qm ?_))))
       obtain ⟨s133, hs133, ho105⟩ := Bs ho105
       refine jG 10 (fun _ : Unit => [(0, Pt b_r_), (1, Ii m), (5, Ii s34), (6, v18), (7, Ii (k28 : Int)), (8, Pt b66), (9, Ii s92), (10, Ii (k86 : Int)), (11, Pt b120), (30, v_r_1), (31, Ii (r_.assigner.cals.length : Int)), (32, Ii (k28 : Int)), (41, v_r_0), (42, Ii (r_.assigner.people.length : Int)), (43, Ii (k86 : Int)), (62, .bool s133)]) (fun _ => True) ?_ ?_
       ·simp only [List.take, List.drop]
        rcases Be (x113.calendar == (k28 : Int)) with hc132 | hc132
        ·rw [if_pos hc132] at hs133
         refine Qh hc132 (Qm (Qh hc132 (Qn (Qh hc132 (Qv (fun w' hw' => Fc 0 underlying58 rfl sizeOf56 rfl rfl) (Qh hc132 (Qv (fun w' hw' => Fc 3 underlying56 rfl sizeOf54 rfl rfl) (Qh hc132 (Qc (Hc 3 1 hH rfl rfl) isAgg54 ?_)))))))))
         refine Qh hc132 (Qm (Qh hc132 ?_))
         obtain ⟨x134, hx134, hs133⟩ := Bs hs133
         refine Zd (α := Bool) (e := 4) (v := v_r_3) (l := r_.assigner.away) hH (i := 2) rfl hx134 underlying54 sizeOf4 rfl rfl rfl ?_
         intro b135 o136 h137 hl138
         refine Qh hc132 (Ql (fun w' hw' => (El.bool (El.kp h137 hw'))) isAgg4 (Qh hc132 (Qv (fun w' hw' => Zs rfl) ?_)))
         refine VQ_y (fun _ _ => zF rfl hc132 rfl) rfl rfl rfl ?_
         obtain rfl := Oi hs133
         exact ZK fun a ha => ⟨(), ha.sb, trivial⟩
        rw [if_neg (nt hc132)] at hs133
        refine Qg hc132 (Qg hc132 (Qg hc132 (Qg hc132 (Qg hc132 (Qg hc132 (Qg hc132 (Qg hc132 (Qg hc132 ?_))))))))
        refine VQ_y (fun _ _ => zG rfl hc132 rfl) rfl rfl rfl ?_
        obtain rfl := Oi hs133
        exact ZK fun a ha => ⟨(), ha.sb, trivial⟩
       simp only [List.take, List.drop]
       rintro _ _
       refine Qm ?_
       obtain ⟨s140, hs140, ho105⟩ := Bs ho105
       refine jG 8 (fun _ : Unit => [(0, Pt b_r_), (1, Ii m), (5, Ii s34), (6, v18), (7, Ii (k28 : Int)), (8, Pt b66), (9, Ii s92), (10, Ii (k86 : Int)), (30, v_r_1), (31, Ii (r_.assigner.cals.length : Int)), (32, Ii (k28 : Int)), (41, v_r_0), (42, Ii (r_.assigner.people.length : Int)), (43, Ii (k86 : Int)), (71, .bool s140)]) (fun _ => True) ?_ ?_
       ·simp only [List.take, List.drop]
        rcases Be (s133) with hc139 | hc139
        ·rw [if_pos hc139] at hs140
         refine Qh hc139 (Qm (Qh hc139 (Qm (Qh hc139 ?_))))
         obtain ⟨x141, hx141, hs140⟩ := Bs hs140
         refine Zd (α := Int) (e := 3) (v := v18) (l := x17) hH (i := 0) rfl hx141 underlying26 sizeOf3 rfl rfl rfl ?_
         intro b142 o143 h144 hl145
         refine Qh hc139 (Qi h144 isAgg3 (Qh hc139 ?_))
         have h146 := qN h128
         refine Qf underlying61 rfl sizeOf3 (Qh hc139 (Qi h146 isAgg3 (Qh hc139 (Qv (fun w' hw' => zR rfl rfl) ?_))))
         refine VQ_y (fun _ _ => zF rfl hc139 rfl) rfl rfl rfl ?_
         obtain rfl := Oi hs140
         exact ZK fun a ha => ⟨(), ha.sb, trivial⟩
        rw [if_neg (nt hc139)] at hs140
        refine Qg hc139 (Qg hc139 (Qg hc139 (Qg hc139 (Qg hc139 (Qg hc139 (Qg hc139 ?_))))))
        refine VQ_y (fun _ _ => zG rfl hc139 rfl) rfl rfl rfl ?_
        obtain rfl := Oi hs140
        exact ZK fun a ha => ⟨(), ha.sb, trivial⟩
       simp only [List.take, List.drop]
       rintro _ _
       refine jR (fun _ _ => rfl) (fun w147 hk148 => ?_)
       have ht149 := Kp.tr hk148 hA hB; replace hH := Hp.kp hH hk148; replace hr107 := Tt hr107 ht149
       obtain ⟨s151, ho150, ho105⟩ := Bs ho105
       refine zu (ι := Unit) (fun (_ : Unit) => [(0, Pt b_r_), (1, Ii m), (5, Ii s34), (6, v18), (7, Ii (k28 : Int)), (8, Pt b66), (9, Ii s151), (30, v_r_1), (31, Ii (r_.assigner.cals.length : Int)), (32, Ii (k28 : Int)), (41, v_r_0), (42, Ii (r_.assigner.people.length : Int)), (43, Ii (k86 : Int))]) (fun (_ : Unit) => fun w' => w147 = w') ?_ ?_
       ·refine Cc (fun hc156 => ?_) fun hc156 => ?_
        ·rw [if_pos hc156] at ho150
         refine zo (Mm (As ?_))
         obtain rfl := Oi ho150
         refine zn (fun a ha157 => ?_)
         exact ⟨(), ha157.sb, rfl⟩
        rw [if_neg (nt hc156)] at ho150
        obtain rfl := Oi ho150
        refine qL (fun a ha158 => ?_)
        exact ⟨(), ha158.sb, rfl⟩
       rintro _ _ rfl a ha155
       obtain rfl := Oi ho105
       exact ⟨A94, ha155.sb, ⟨hH, hr107⟩⟩
      rintro A111 w108 ⟨hH112, hk109⟩ a ha110
      replace hr85 := Tr.trans hr85 hk109; replace hA := hk109.new; replace hH := hH112
      refine C_at (n := ⟨112, [], none⟩) (fun _ _ => rfl) ?_ ha110
      refine zo (Vy (zN rfl rfl) (Mm ?_))
      obtain rfl := Oi h97
      refine zn (fun a ha160 => ?_)
      exact ⟨s106, hlt100, h98, ⟨A111, ha160.sub ⟨rfl, rfl, rfl, rfl, rfl, rfl, rfl, rfl, rfl, rfl, rfl, rfl, Ws hlt100 hn103, trivial⟩, ⟨hH, hr85⟩⟩⟩
     refine zQ (fun a ha161 => ?_)
     exact ⟨(s92, A94), ha161.sb, ⟨(h101 (zK hle99 hc104)).symm, hH, hr85⟩⟩
    rintro ⟨s84, A90⟩ w87 ⟨rfl, hH91, hk88⟩ a ha89
    rw [Lp.andThen_fin] at ho47
    replace h80 := El.tr h80 hk88; replace hr49 := Tr.trans hr49 hk88; replace hB := Nat.le_trans hB hk88.ex.size; replace hA := hk88.new; replace hH := hH91
    refine C_at (n := ⟨112, [], none⟩) (fun _ _ => rfl) ?_ ha89
    refine zh (Sr (Mm (Vy (zR rfl rfl) (To ?_))))
    refine Cc (fun hc163 => ?_) fun hc163 => ?_
    ·rw [if_pos hc163] at ho47
     obtain rfl := Oi ho47
     refine zQ (fun a ha164 => ?_)
     exact ⟨A90, ha164.sb, ⟨hH, hr49⟩⟩
    rw [if_neg (nt hc163)] at ho47
    refine Sk ?_
    refine Sr (Mm (As (As (To ?_))))
    refine zh (Sr ?_)
    obtain ⟨v165, v167, v169, h171, h166, h168, h170⟩ := Zg h80
    refine Vy (zx h171 isAgg71 sizeOf71 rfl) (Mm ?_)
    obtain ⟨x172, hx172, ho47⟩ := Bs ho47
    refine Vc call72 (zdo (Dw := Dw) w87 hA x55 v165 h166 v167 h168 v169 h170 m hx172) ?_
    rintro _ w173 ⟨rfl, hk174⟩
    have ht175 := Kp.tr hk174 hA hB; replace hH := Hp.kp hH hk174; replace h80 := El.tr h80 ht175; replace hr49 := Tt hr49 ht175; replace hB := Bx hB ht175; replace hA := ht175.new
    refine Mm (Vy (zD rfl rfl) (Vy (zD rfl rfl) (As (As (To ?_)))))
    refine Sr (Mm (To ?_))
    obtain ⟨s177, ho176, ho47⟩ := Bs ho47
    refine zu (ι := (Nat → Prop)) (fun (A182 : (Nat → Prop)) => [(0, Pt b_r_), (1, Ii m), (5, Ii s34), (6, v18), (8, Pt b66), (12, Ii s177.1), (13, Ii s177.2), (30, v_r_1), (31, Ii (r_.assigner.cals.length : Int)), (32, Ii (k28 : Int))]) (fun (A182 : (Nat → Prop)) => fun w' => Hp B A182 w' (o_3 v18 x17 :: obC b_r_ [v_r_0, v_r_1, v_r_2, v_r_3, Ii r_.now, v_r_4, v_r_5, .map (some m_r_0)] 58 :: o_4 v_r_3 r_.assigner.away :: obRM (κ := Int) (α := za) m_r_0 r_.work :: L) ∧ Tr Dw B A90 w173 A182 w') ?_ ?_
    ·have hr178 : Tr Dw B A90 w173 A90 w173 := Tr.refl (Dw := Dw) hA
     refine Cc (fun hc184 => ?_) fun hc184 => ?_
     ·rw [if_pos hc184] at ho176
      refine zo ?_
      obtain ⟨v185, v187, v189, h191, h186, h188, h190⟩ := Zg h80
      refine Vy (zx h191 isAgg71 sizeOf71 rfl) (Mm ?_)
      obtain ⟨x192, hx192, ho176⟩ := Bs ho176
      refine Vc call111 (zfb (Dw := Dw) w173 hA x55 v185 h186 v187 h188 v189 h190 m hx192) ?_
      rintro _ w193 ⟨rfl, hk194⟩
      have ht195 := Kp.tr hk194 hA hB; replace hH := Hp.kp hH hk194; replace hr178 := Tt hr178 ht195
      refine Mm (Vy (zD rfl rfl) (Vy (zD rfl rfl) (As (As ?_))))
      obtain rfl := Oi ho176
      refine zn (fun a ha196 => ?_)
      exact ⟨A90, ha196.sb, ⟨hH, hr178⟩⟩
     rw [if_neg (nt hc184)] at ho176
     obtain rfl := Oi ho176
     refine qL (fun a ha197 => ?_)
     exact ⟨A90, ha197.sb, ⟨hH, hr178⟩⟩
    rintro A182 w179 ⟨hH183, hk180⟩ a ha181
    replace h80 := El.tr h80 hk180; replace hr49 := Tr.trans hr49 hk180; replace hB := Nat.le_trans hB hk180.ex.size; replace hA := hk180.new; replace hH := hH183
    refine C_at (n := ⟨112, [], none⟩) (fun _ _ => rfl) ?_ ha181
    refine zh (Sr (Mm (Vy (ql rfl rfl) (To ?_))))
    obtain ⟨s199, ho198, ho47⟩ := Bs ho47
    refine zu (ι := (Nat → Prop)) (fun (A204 : (Nat → Prop)) => [(0, Pt b_r_), (1, Ii m), (5, Ii s34), (6, v18), (12, Ii s199.1), (13, Ii s199.2), (30, v_r_1), (31, Ii (r_.assigner.cals.length : Int)), (32, Ii (k28 : Int))]) (fun (A204 : (Nat → Prop)) => fun w' => Hp B A204 w' (o_3 v18 x17 :: obC b_r_ [v_r_0, v_r_1, v_r_2, v_r_3, Ii r_.now, v_r_4, v_r_5, .map (some m_r_0)] 58 :: o_4 v_r_3 r_.assigner.away :: obRM (κ := Int) (α := za) m_r_0 r_.work :: L) ∧ Tr Dw B A182 w179 A204 w') ?_ ?_
    ·have hr200 : Tr Dw B A182 w179 A182 w179 := Tr.refl (Dw := Dw) hA
     refine Cc (fun hc206 => ?_) fun hc206 => ?_
     ·rw [if_pos hc206] at ho198
      refine zo ?_
      obtain ⟨v207, v209, v211, h213, h208, h210, h212⟩ := Zg h80
      refine Vy (zx h213 isAgg71 sizeOf71 rfl) (Mm ?_)
      obtain ⟨x214, hx214, ho198⟩ := Bs ho198
      refine Vc call112 (zfS (Dw := Dw) w179 hA x55 v207 h208 v209 h210 v211 h212 s177.1 hx214) ?_
      rintro _ w215 ⟨rfl, hk216⟩
      have ht217 := Kp.tr hk216 hA hB; replace hH := Hp.kp hH hk216; replace hr200 := Tt hr200 ht217
      refine Mm (Vy (zD rfl rfl) (Vy (zD rfl rfl) (As (As ?_))))
      obtain rfl := Oi ho198
      refine zn (fun a ha218 => ?_)
      exact ⟨A182, ha218.sb, ⟨hH, hr200⟩⟩
     rw [if_neg (nt hc206)] at ho198
     obtain rfl := Oi ho198
     refine qL (fun a ha219 => ?_)
     exact ⟨A182, ha219.sb, ⟨hH, hr200⟩⟩
    rintro A204 w201 ⟨hH205, hk202⟩ a ha203
    replace hr49 := Tr.trans hr49 hk202; replace hA := hk202.new; replace hH := hH205
    refine C_at (n := ⟨112, [], none⟩) (fun _ _ => rfl) ?_ ha203
    refine Sr (Mm (Vy (ql rfl rfl) (Mm ?_)))
    refine ZP 8 (fun _ : Unit => [(0, Pt b_r_), (1, Ii m), (5, Ii s34), (6, v18), (12, Ii s199.1), (30, v_r_1), (31, Ii (r_.assigner.cals.length : Int)), (32, Ii (k28 : Int)), (108, .bool ((s199.2 == 0) && ((decide (s34 < 0)) || (decide (s199.1 < s34)))))]) (fun _ w' => w201 = w') ?_ ?_
    ·simp only [List.take, List.drop]
     rcases Be (s199.2 == 0) with hc220 | hc220
     ·refine Gf hc220 (Mm (Gf hc220 (Vy (zR rfl rfl) (Gf hc220 (Mm ?_)))))
      refine ZP 4 (fun _ : Unit => [(0, Pt b_r_), (1, Ii m), (5, Ii s34), (6, v18), (12, Ii s199.1), (30, v_r_1), (31, Ii (r_.assigner.cals.length : Int)), (32, Ii (k28 : Int)), (100, .bool (s199.2 == 0)), (107, .bool ((decide (s34 < 0)) || (decide (s199.1 < s34))))]) (fun _ w' => w201 = w') ?_ ?_
      ·simp only [List.take, List.drop]
       rcases Be (decide (s34 < 0)) with hc222 | hc222
       ·refine Gm hc222 (Gm hc222 (Gm hc222 (Gf hc220 (Vy (zF rfl hc222 rfl) ?_))))
        exact zn fun a ha => ⟨(), ha.sub ⟨rfl, rfl, rfl, rfl, rfl, rfl, rfl, rfl, rfl, (by rw [hc222]; rfl), trivial⟩, rfl⟩
       refine Gf hc222 (Mm (Gf hc222 (Mm (Gf hc222 (Vy (zR rfl rfl) (Gf hc220 (Vy (zG rfl hc222 rfl) ?_)))))))
       exact zn fun a ha => ⟨(), ha.sub ⟨rfl, rfl, rfl, rfl, rfl, rfl, rfl, rfl, rfl, (by rw [hc222]; rfl), trivial⟩, rfl⟩
      simp only [List.take, List.drop]
      rintro _ _ rfl
      refine Vy (zF rfl hc220 rfl) ?_
      exact zn fun a ha => ⟨(), ha.sub ⟨rfl, rfl, rfl, rfl, rfl, rfl, rfl, rfl, (by rw [hc220]; rfl), trivial⟩, rfl⟩
     refine Gm hc220 (Gm hc220 (Gm hc220 ?_))
     refine V_gu rfl rfl rfl rfl rfl ?_
     refine V_gu rfl rfl rfl rfl rfl ?_
     refine V_gu rfl rfl rfl rfl rfl ?_
     refine Gm hc220 (Vy (zG rfl hc220 rfl) ?_)
     exact zn fun a ha => ⟨(), ha.sub ⟨rfl, rfl, rfl, rfl, rfl, rfl, rfl, rfl, (by rw [hc220]; rfl), trivial⟩, rfl⟩
    simp only [List.take, List.drop]
    rintro _ _ rfl
    refine To ?_
    obtain ⟨s225, ho224, ho47⟩ := Bs ho47
    refine zu (ι := Unit) (fun (_ : Unit) => [(0, Pt b_r_), (1, Ii m), (5, Ii s225), (6, v18), (30, v_r_1), (31, Ii (r_.assigner.cals.length : Int)), (32, Ii (k28 : Int))]) (fun (_ : Unit) => fun w' => w201 = w') ?_ ?_
    ·refine Cc (fun hc230 => ?_) fun hc230 => ?_
     ·rw [if_pos hc230] at ho224
      refine zo (Mm (As ?_))
      obtain rfl := Oi ho224
      refine zn (fun a ha231 => ?_)
      exact ⟨(), ha231.sb, rfl⟩
     rw [if_neg (nt hc230)] at ho224
     obtain rfl := Oi ho224
     refine qL (fun a ha232 => ?_)
     exact ⟨(), ha232.sb, rfl⟩
    rintro _ _ rfl a ha229
    obtain rfl := Oi ho47
    exact ⟨A204, ha229.sb, ⟨hH, hr49⟩⟩
   rintro A53 w50 ⟨hH54, hk51⟩ a ha52
   replace hr27 := Tr.trans hr27 hk51; replace hA := hk51.new; replace hH := hH54
   refine C_at (n := ⟨112, [], none⟩) (fun _ _ => rfl) ?_ ha52
   refine zo (Vy (zN rfl rfl) (Mm ?_))
   obtain rfl := Oi h39
   refine zn (fun a ha234 => ?_)
   exact ⟨s48, hlt42, h40, ⟨A53, ha234.sub ⟨rfl, rfl, rfl, rfl, rfl, rfl, Ws hlt42 hn45, trivial⟩, ⟨hH, hr27⟩⟩⟩
  refine zQ (fun a ha235 => ?_)
  exact ⟨(s34, A36), ha235.sb, ⟨(h43 (zK hle41 hc46)).symm, hH, hr27⟩⟩
 rintro ⟨s26, A32⟩ w29 ⟨rfl, hH33, hk30⟩ a ha31
 rw [Lp.andThen_fin] at hm
 replace hK := Tr.trans hK hk30; replace hA := hk30.new; replace hH := hH33
 refine C_at (n := ⟨112, [], none⟩) (fun _ _ => rfl) ?_ ha31
 refine Sr (Mm (As (To ?_)))
 obtain rfl := Oi hm
 replace hH := Hd 3 (Hf 3 (Hf 3 (Hf 3 hH)))
 refine Rt (Res.one results85 rfl) ?_
 exact ⟨A32, rfl, hH, hK⟩
end Go.Proofs.YtiblagcmjobknaaGreatDoor.W
