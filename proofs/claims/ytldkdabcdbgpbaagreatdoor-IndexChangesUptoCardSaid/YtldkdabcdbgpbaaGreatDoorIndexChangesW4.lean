import Derived.Test.YtldkdabcdbgpbaaGreatDoorIndexChangesW3
namespace Go.Proofs.YtldkdabcdbgpbaaGreatDoor.W
open Go Go.RowKit Go.Pu Go.Gw Go.Proofs Go.Proofs.YtldkdabcdbgpbaaGreatDoor.M
set_option linter.unusedVariables false
set_option linter.unusedSimpArgs false
variable {Dw : Prop}
set_option maxHeartbeats 4000000
set_option maxRecDepth 4000
open Tryz
def idxIn (b : Nat) (m : List (Int × know_Posting)) : Ob := obMO Ptr idxPo b m
theorem portref2_indexOf_put_c (w : World) {A : Nat → Prop} {B : Nat} (hB : B ≤ w.heap.size) (hA : ∀ b, w.heap.size ≤ b → A b) (stem : ByteArray) (id pos : Int) (title : Bool) (b_m mb : Nat) (at_ : List (ByteArray × List (Int × know_Posting))) {L : List Ob} (hH : Hp B A w (obC b_m [.map (some mb)] 178 :: obMO MRf idxIn mb at_ :: L)) {r : List (ByteArray × List (Int × know_Posting))} (hm : idxAtPut at_ stem id pos title = some r) :
  Ret prog 80 #[.string stem, Ii id, Ii pos, .bool title, Pt b_m] w fun u w' => ∃ A1 : Nat → Prop, u = .tuple #[] ∧ Hp B A1 w' (obC b_m [.map (some mb)] 178 :: obMO MRf idxIn mb r :: L) ∧ Tr False B A w A1 w' := by
 unfold idxAtPut at hm
 refine enter func80 rfl ntmps80 rfl ?_
 refine C_seq (Sr (Ld (Hp.cell (j := 0) hH (i := 0) rfl rfl) isAgg178 (Mm ?_)))
 refine V_lookupMO1 hH (i := 1) rfl underlying178 underlying9 zeroValue179 rfl rfl rfl rfl ?_
 intro o1 ho1
 refine Vy (Y_eqlMN underlying179 rfl rfl) (To ?_)
 refine C_cutG (ι := (Nat → Prop)) (fun _ => [(0, .string stem), (1, Ii id), (2, Ii pos), (3, .bool title), (4, Pt b_m)]) (fun A' => fun w' => Hp B A' w' (obC b_m [.map (some mb)] 178 :: obMO MRf idxIn mb (mapHave at_ stem []) :: L) ∧ Tr False B A w A' w') ?_ ?_
 ·refine Cc (fun hn => ?_) fun hn => ?_
  ·have hnone : mapGet at_ stem = none := by
    cases hg : mapGet at_ stem with
    | none => rfl
    | some p => rw [hg] at ho1; rw [ho1] at hn; cases hn
   refine C_region (Ld (Hp.cell (j := 0) hH (i := 0) rfl rfl) isAgg178 (Mm ?_))
   refine V_makeMapB (Dw := False) Int (Option Ptr) hH hB hA rfl ?_
   intro mb2 w1 A1 hH1 ht1
   replace hB := Bx hB ht1; replace hA := ht1.new
   have hH2 : Hp B A1 w1 (idxIn (Ref.b (⟨mb2⟩ : MRf)) [] :: obC b_m [.map (some mb)] 178 :: obMO MRf idxIn mb at_ :: L) := Hp.moNew Ptr idxPo hH1 (i := 0) rfl
   refine V_mapNewMO (Dw := False) (r := (⟨mb2⟩ : MRf)) (f := idxIn) (c := []) hH2 (i := 1) rfl hnone underlying178 underlying9 rfl rfl rfl hB hA ?_
   intro w2 hH3 ht2
   refine V_end (fun a ha => ?_)
   refine ⟨A1, ha.sb, ?_, Tr.trans ht1 ht2⟩
   rw [mapHave_none hnone]
   exact hH3
  have hsome : (mapGet at_ stem).isSome = true := by
   rw [← ho1]
   simpa using hn
  refine C_skip (fun a ha => ?_)
  refine ⟨A, ha.sb, ?_, Tr.refl (Dw := False) hA⟩
  have e : mapHave at_ stem ([] : List (Int × know_Posting)) = at_ := by unfold mapHave; exact if_pos hsome
  rw [e]
  exact hH
 rintro A1 w1 ⟨hH1, ht1⟩ a ha1
 replace hB := Bx hB ht1; replace hA := ht1.new
 have hK := ht1
 have hnd := Hp.moNodup hH1 (i := 1) rfl
 have hg1 := mapHave_get at_ stem ([] : List (Int × know_Posting))
 refine C_at (n := ⟨53, [], none⟩) (fun _ _ => rfl) ?_ ha1
 generalize hmm : (mapGet at_ stem).getD [] = m at hm hg1
 refine C_seq ?_
 refine C_cutG (ι := (Option Ptr × Nat × Nat × Nat)) (fun ⟨o, j2, rb, j⟩ => [(0, .string stem), (1, Ii id), (2, Ii pos), (3, .bool title), (4, Pt b_m), (9, Cel.enc o)]) (fun ⟨o, j2, rb, j⟩ => fun w' => (mapHave at_ stem [])[j]? = some (stem, m) ∧ w' = w1 ∧ ((o = none ∧ mapGet m id = none ∧ Hp B A1 w' (obMO Ptr idxPo rb m :: obC b_m [.map (some mb)] 178 :: obMX MRf idxIn mb (mapHave at_ stem []) j ⟨rb⟩ :: L)) ∨ ∃ bp p, o = some ⟨bp⟩ ∧ mapGet m id = some p ∧ m[j2]? = some (id, p) ∧ (m.map (·.1)).Nodup ∧ Hp B A1 w' (idxPo (Ref.b (⟨bp⟩ : Ptr)) p :: obMX Ptr idxPo rb m j2 ⟨bp⟩ :: obC b_m [.map (some mb)] 178 :: obMX MRf idxIn mb (mapHave at_ stem []) j ⟨rb⟩ :: L))) ?_ ?_
 ·refine C_region (Ld (Hp.cell (j := 0) hH1 (i := 0) rfl rfl) isAgg178 (Mm ?_))
  refine V_lookupMO hH1 (i := 1) rfl hg1 underlying178 underlying9 zeroValue179 rfl rfl rfl rfl ?_
  rintro j ⟨rb⟩ hj hHo
  have hH : Hp B A1 w1 (obMO Ptr idxPo rb m :: obC b_m [.map (some mb)] 178 :: obMX MRf idxIn mb (mapHave at_ stem []) j ⟨rb⟩ :: L) := hHo
  refine Mm ?_
  cases hgm : mapGet m id with
  | none =>
   refine V_lookupMO1 hH (i := 0) rfl underlying179 underlying3 zeroValue180 rfl rfl rfl rfl ?_
   intro o2 ho2
   rw [hgm] at ho2
   obtain rfl : o2 = none := by cases o2 with | none => rfl | some _ => cases ho2
   refine As ?_
   refine V_end (fun a ha => ?_)
   exact ⟨(none, 0, rb, j), ha.sb, hj, rfl, .inl ⟨rfl, rfl, hH⟩⟩
  | some p =>
   have hndm := Hp.moNodup hH (i := 0) rfl
   refine V_lookupMO hH (i := 0) rfl hgm underlying179 underlying3 zeroValue180 rfl rfl rfl rfl ?_
   rintro j2 ⟨bp⟩ hj2 hHp
   refine As ?_
   refine V_end (fun a ha => ?_)
   exact ⟨(some ⟨bp⟩, j2, rb, j), ha.sb, hj, rfl, .inr ⟨bp, p, rfl, rfl, hj2, hndm, hHp⟩⟩
 rintro ⟨o, j2, rb, j⟩ w2 ⟨hj, rfl, hor⟩ a ha2
 refine C_at (n := ⟨53, [], none⟩) (fun _ _ => rfl) ?_ ha2
 refine C_seq ?_
 refine C_cutG (ι := (Nat × Nat × (Nat → Prop))) (fun ⟨bp, j2, A'⟩ => [(0, .string stem), (1, Ii id), (2, Ii pos), (3, .bool title), (4, Pt b_m), (9, Pt bp)]) (fun ⟨bp, j2, A'⟩ => fun w' => (mapHave m id ⟨id, [], []⟩)[j2]? = some (id, (mapGet m id).getD ⟨id, [], []⟩) ∧ Hp B A' w' (idxPo (Ref.b (⟨bp⟩ : Ptr)) ((mapGet m id).getD ⟨id, [], []⟩) :: obMX Ptr idxPo rb (mapHave m id ⟨id, [], []⟩) j2 ⟨bp⟩ :: obC b_m [.map (some mb)] 178 :: obMX MRf idxIn mb (mapHave at_ stem []) j ⟨rb⟩ :: L) ∧ Tr False B A1 w2 A' w' ∧ ((mapHave m id (⟨id, [], []⟩ : know_Posting)).map (·.1)).Nodup) ?_ ?_
 ·refine Sr (Mm (Vy (Y_eqlPN underlying180 rfl rfl) (To ?_)))
  rcases hor with ⟨rfl, hgm, hH⟩ | ⟨bp, p, rfl, hgm, hj2, hndm, hH⟩
  ·refine C_cond rfl (fun _ => ?_) (fun hc => by cases hc)
   refine Sr (Mm ?_)
   refine Vy (Y_build underlying86 zeroValue86 (Tryz_places86 _ underlying86) rfl (by with_unfolding_all rfl)) ?_
   refine V_boxH (Dw := False) (B := B) hH rfl hB hA rfl ?_
   intro bp w3 A3 hH3 ht3
   replace hB := Bx hB ht3; replace hA := ht3.new
   have hndm := Hp.moNodup hH (i := 0) rfl
   replace hH : Hp B A3 w3 (idxPo (Ref.b (⟨bp⟩ : Ptr)) ⟨id, [], []⟩ :: obMO Ptr idxPo rb m :: obC b_m [.map (some mb)] 178 :: obMX MRf idxIn mb (mapHave at_ stem []) j ⟨rb⟩ :: L) := idxPo_new hH3
   refine As (To ?_)
   refine C_region (Ld (Hp.cell (j := 0) hH (i := 2) rfl rfl) isAgg178 (Mm (Vy (Y_lookupMX hH (i := 3) rfl hj underlying178 underlying9 zeroValue179 rfl rfl rfl) (Mm (Mm ?_)))))
   refine V_mapNewMX (Dw := False) (κ := Int) (k := id) (r := (⟨bp⟩ : Ptr)) (f := idxPo) (c := ⟨id, [], []⟩) (mb := rb) hH (i := 0) rfl hgm underlying179 underlying3 rfl rfl rfl hB hA ?_
   intro w4 hat hH4 ht4
   refine V_end (fun a ha => ?_)
   have e1 : mapHave m id (⟨id, [], []⟩ : know_Posting) = m ++ [(id, ⟨id, [], []⟩)] := mapHave_none hgm
   refine ⟨(bp, m.length, A3), ha.sb, ?_, ?_, Tr.trans ht3 ht4, ?_⟩
   ·rw [e1, hgm]; exact hat
   ·rw [e1, hgm]; exact hH4
   rw [e1, List.map_append, List.nodup_append]
   refine ⟨hndm, by simp, fun x hx y hy => ?_⟩
   obtain ⟨q, hq, rfl⟩ := List.mem_map.1 hx
   simp at hy
   subst hy
   intro e
   rw [← e, mapGet_some hndm hq] at hgm
   cases hgm
  refine C_cond rfl (fun hc => by cases hc) (fun _ => ?_)
  refine C_skip (fun a ha => ?_)
  have e1 : mapHave m id (⟨id, [], []⟩ : know_Posting) = m := mapHave_some hgm
  refine ⟨(bp, j2, A1), ha.sb, ?_, ?_, Tr.refl (Dw := False) hA, ?_⟩
  ·rw [e1, hgm]; exact hj2
  ·rw [e1, hgm]; exact hH
  rw [e1]; exact hndm
 rintro ⟨bp, j3, A3⟩ w3 ⟨hj3, hH3, ht3, hnd3⟩ a ha3
 replace hB := Bx hB ht3; replace hA := ht3.new; replace hK := Tt hK ht3
 refine C_at (n := ⟨53, [], none⟩) (fun _ _ => rfl) ?_ ha3
 refine Sr (Mm (To ?_))
 generalize hpp : (mapGet m id).getD (⟨id, [], []⟩ : know_Posting) = p at hm hj3 hH3
 obtain ⟨⟨vt, vb⟩, hHp⟩ := Hp.open hH3
 have hH : Hp B A3 w3 (obC bp [Ii p.id_, vt, vb] 86 :: o_3 vt p.title :: o_3 vb p.body :: obMX Ptr idxPo rb (mapHave m id ⟨id, [], []⟩) j3 ⟨bp⟩ :: obC b_m [.map (some mb)] 178 :: obMX MRf idxIn mb (mapHave at_ stem []) j ⟨rb⟩ :: L) := hHp
 cases title
 ·rw [if_neg (by decide)] at hm
  obtain ⟨l1, hl1, hm⟩ := Bs hm
  obtain rfl := Oi hm
  refine C_cond rfl (fun hc => by cases hc) (fun _ => ?_)
  refine C_region (Mm (Mm (Nc (Vy (Y_fieldAddrC (off2 := 2) underlying86 rfl sizeOf23 (by decide) rfl rfl) (Ld (Hp.cell (j := 2) hH (i := 0) rfl rfl) isAgg23 (Mm ?_))))))
  refine V_buildSlice (Dw := False) (cells := #[Ii pos]) (l := ([pos] : List Int)) (len := 1) underlying23 sizeOf3 zeroValue3 rfl (by with_unfolding_all rfl) (show (1 * 1 : Nat) ≠ 0 by decide) (show (1 * 1 : Nat) ≤ 2 ^ 24 by decide) hA ⟨[Ii pos], _, rfl, rfl, rfl⟩ rfl rfl ?_
  intro v7 w7 hk7 h7
  have ht7 := Kp.tr hk7 hA hB; replace hH := Hp.kp hH hk7; replace hB := Bx hB ht7; replace hA := ht7.new
  refine V_appendH (Dw := False) (e := 3) (v := vb) (l := p.body) (ti := t3) (bytes := 8) (lim := 17592186044416) hH (i := 2) rfl h7 hl1 underlying23 Tryz_info3 rfl rfl rfl rfl (by decide) (by decide) (by decide) hB hA rfl rfl rfl ?_
  intro v8 w8 A8 hH8 ht8
  replace hB := Bx hB ht8; replace hA := ht8.new
  replace hH : Hp _ _ _ (obC bp [Ii p.id_, vt, vb] 86 :: o_3 vt p.title :: o_3 v8 l1 :: obMX Ptr idxPo rb (mapHave m id ⟨id, [], []⟩) j3 ⟨bp⟩ :: obC b_m [.map (some mb)] 178 :: obMX MRf idxIn mb (mapHave at_ stem []) j ⟨rb⟩ :: L) := hH8
  have one8 : v8.oneCell' = true := by obtain ⟨_, _, e, _⟩ := Hp.form hH (i := 2) rfl; rw [e]; rfl
  refine Nc (Vy (Y_fieldAddrC (off2 := 2) underlying86 rfl sizeOf23 (by decide) rfl rfl) ?_)
  refine V_storeC (Dw := False) (off := 2) (ds := [Ii p.id_, vt, v8]) hH (i := 0) rfl sizeOf23 (cells_of_one one8) (Nat.le_of_ble_eq_true rfl) (cells_all_one one8) (by rw [Value.cells_one one8]; rfl) hB hA rfl rfl ?_
  intro w9 hH9 ht9
  have hHq : Hp B A8 w9 (idxPo (Ref.b (⟨bp⟩ : Ptr)) ⟨p.id_, p.title, l1⟩ :: obMX Ptr idxPo rb (mapHave m id ⟨id, [], []⟩) j3 ⟨bp⟩ :: obC b_m [.map (some mb)] 178 :: obMX MRf idxIn mb (mapHave at_ stem []) j ⟨rb⟩ :: L) := Hp.pack (F := idxPoL bp ⟨p.id_, p.title, l1⟩) (vt, v8) hH9
  have hHr := Hp.moBack (i := 0) hHq rfl hj3
  rw [mapHave_put hnd3 hj3] at hHr
  replace hHr : Hp B A8 w9 (idxIn (Ref.b (⟨rb⟩ : MRf)) (mapPut m id ⟨p.id_, p.title, l1⟩) :: obC b_m [.map (some mb)] 178 :: obMX MRf idxIn mb (mapHave at_ stem []) j ⟨rb⟩ :: L) := hHr
  have hHs := Hp.moBack (i := 1) hHr rfl hj
  rw [mapHave_put hnd hj] at hHs
  refine V_end (fun a ha => normQ (retQ rfl (Res.zero results80) ⟨A8, rfl, hHs, Tr.trans hK (Tr.trans ht7 (Tr.trans ht8 ht9))⟩ a ha))
 rw [if_pos rfl] at hm
 obtain ⟨l1, hl1, hm⟩ := Bs hm
 obtain rfl := Oi hm
 refine C_cond rfl (fun _ => ?_) (fun hc => by cases hc)
 refine C_region (Mm (Mm (Nc (Vy (Y_fieldAddrC (off2 := 1) underlying86 rfl sizeOf23 (by decide) rfl rfl) (Ld (Hp.cell (j := 1) hH (i := 0) rfl rfl) isAgg23 (Mm ?_))))))
 refine V_buildSlice (Dw := False) (cells := #[Ii pos]) (l := ([pos] : List Int)) (len := 1) underlying23 sizeOf3 zeroValue3 rfl (by with_unfolding_all rfl) (show (1 * 1 : Nat) ≠ 0 by decide) (show (1 * 1 : Nat) ≤ 2 ^ 24 by decide) hA ⟨[Ii pos], _, rfl, rfl, rfl⟩ rfl rfl ?_
 intro v7 w7 hk7 h7
 have ht7 := Kp.tr hk7 hA hB; replace hH := Hp.kp hH hk7; replace hB := Bx hB ht7; replace hA := ht7.new
 refine V_appendH (Dw := False) (e := 3) (v := vt) (l := p.title) (ti := t3) (bytes := 8) (lim := 17592186044416) hH (i := 1) rfl h7 hl1 underlying23 Tryz_info3 rfl rfl rfl rfl (by decide) (by decide) (by decide) hB hA rfl rfl rfl ?_
 intro v8 w8 A8 hH8 ht8
 replace hB := Bx hB ht8; replace hA := ht8.new
 replace hH : Hp _ _ _ (obC bp [Ii p.id_, vt, vb] 86 :: o_3 v8 l1 :: o_3 vb p.body :: obMX Ptr idxPo rb (mapHave m id ⟨id, [], []⟩) j3 ⟨bp⟩ :: obC b_m [.map (some mb)] 178 :: obMX MRf idxIn mb (mapHave at_ stem []) j ⟨rb⟩ :: L) := hH8
 have one8 : v8.oneCell' = true := by obtain ⟨_, _, e, _⟩ := Hp.form hH (i := 1) rfl; rw [e]; rfl
 refine Nc (Vy (Y_fieldAddrC (off2 := 1) underlying86 rfl sizeOf23 (by decide) rfl rfl) ?_)
 refine V_storeC (Dw := False) (off := 1) (ds := [Ii p.id_, v8, vb]) hH (i := 0) rfl sizeOf23 (cells_of_one one8) (Nat.le_of_ble_eq_true rfl) (cells_all_one one8) (by rw [Value.cells_one one8]; rfl) hB hA rfl rfl ?_
 intro w9 hH9 ht9
 have hHq : Hp B A8 w9 (idxPo (Ref.b (⟨bp⟩ : Ptr)) ⟨p.id_, l1, p.body⟩ :: obMX Ptr idxPo rb (mapHave m id ⟨id, [], []⟩) j3 ⟨bp⟩ :: obC b_m [.map (some mb)] 178 :: obMX MRf idxIn mb (mapHave at_ stem []) j ⟨rb⟩ :: L) := Hp.pack (F := idxPoL bp ⟨p.id_, l1, p.body⟩) (v8, vb) hH9
 have hHr := Hp.moBack (i := 0) hHq rfl hj3
 rw [mapHave_put hnd3 hj3] at hHr
 replace hHr : Hp B A8 w9 (idxIn (Ref.b (⟨rb⟩ : MRf)) (mapPut m id ⟨p.id_, l1, p.body⟩) :: obC b_m [.map (some mb)] 178 :: obMX MRf idxIn mb (mapHave at_ stem []) j ⟨rb⟩ :: L) := hHr
 have hHs := Hp.moBack (i := 1) hHr rfl hj
 rw [mapHave_put hnd hj] at hHs
 refine V_end (fun a ha => normQ (retQ rfl (Res.zero results80) ⟨A8, rfl, hHs, Tr.trans hK (Tr.trans ht7 (Tr.trans ht8 ht9))⟩ a ha))
theorem sortStrs_perm {l m : List ByteArray} (h : l.Perm m) : sortStrsL l = sortStrsL m := by
 unfold sortStrsL
 rw [h.length_eq]
 split
 ·congr 1
  congr 1
  refine List.Perm.eq_of_pairwise (le := (· ≤ ·)) (fun a b _ _ h1 h2 => List.le_antisymm h1 h2) ?_ ?_ ((List.mergeSort_perm _ _).trans ((h.map _).trans (List.mergeSort_perm _ _).symm))
  ·exact (List.pairwise_mergeSort (le := fun x y => decide (x ≤ y)) (fun a b c h1 h2 => by simp only [decide_eq_true_eq] at *; exact List.le_trans h1 h2) (fun a b => by simp only [Bool.or_eq_true, decide_eq_true_eq]; exact List.le_total a b) _).imp fun h => by simpa using h
  exact (List.pairwise_mergeSort (le := fun x y => decide (x ≤ y)) (fun a b c h1 h2 => by simp only [decide_eq_true_eq] at *; exact List.le_trans h1 h2) (fun a b => by simp only [Bool.or_eq_true, decide_eq_true_eq]; exact List.le_total a b) _).imp fun h => by simpa using h
 rfl
theorem sortFunc_perm {cmp : know_Posting → know_Posting → Option Int} {l m : List know_Posting} (h : l.Perm m) : sortFuncL cmp l = sortFuncL cmp m := by
 unfold sortFuncL
 have hok : SortOk cmp l ↔ SortOk cmp m := by
  constructor
  ·intro k
   exact ⟨by rw [← h.length_eq]; exact k.len, fun x hx y hy => k.says x (h.mem_iff.2 hx) y (h.mem_iff.2 hy), fun x hx => k.irrefl x (h.mem_iff.2 hx), fun x hx y hy z hz => k.trans x (h.mem_iff.2 hx) y (h.mem_iff.2 hy) z (h.mem_iff.2 hz), fun x hx y hy z hz => k.ntrans x (h.mem_iff.2 hx) y (h.mem_iff.2 hy) z (h.mem_iff.2 hz), fun x hx y hy => k.total x (h.mem_iff.2 hx) y (h.mem_iff.2 hy)⟩
  intro k
  exact ⟨by rw [h.length_eq]; exact k.len, fun x hx y hy => k.says x (h.mem_iff.1 hx) y (h.mem_iff.1 hy), fun x hx => k.irrefl x (h.mem_iff.1 hx), fun x hx y hy z hz => k.trans x (h.mem_iff.1 hx) y (h.mem_iff.1 hy) z (h.mem_iff.1 hz), fun x hx y hy z hz => k.ntrans x (h.mem_iff.1 hx) y (h.mem_iff.1 hy) z (h.mem_iff.1 hz), fun x hx y hy => k.total x (h.mem_iff.1 hx) y (h.mem_iff.1 hy)⟩
 by_cases hl : SortOk cmp l
 ·rw [if_pos hl, if_pos (hok.1 hl)]
  congr 1
  exact sort_unique hl h
 rw [if_neg hl, if_neg fun k => hl (hok.2 k)]
theorem portref2_indexOf_c (w : World) {A : Nat → Prop} (hA : ∀ b, w.heap.size ≤ b → A b) (l : (List know_Entry)) (v_l : Value) (h_l : Sl A w v_l l) {r : know_Index} (hm : portref2_indexOf l = some r) : Ret prog 17 #[v_l] w fun v w' => ∃ s0 s1 s2, v = .agg #[s0, s1, s2] ∧ Sl A w' s0 r.ids ∧ Sl A w' s1 r.sizes ∧ Sl A w' s2 r.terms ∧ Kp False w w' := by
 unfold portref2_indexOf at hm
 refine enter func17 rfl ntmps17 rfl ?_
 have hA0 := hA
 obtain ⟨hB, hK, hH⟩ := St (Dw := False) hA
 refine Sr ?_
 refine V_allocH (Dw := False) (B := w.heap.size) hH zeroValue26 hB hA rfl ?_
 intro b_r w1 A1 hH1 ht1
 replace h_l := Sl.tr h_l ht1; replace hK := Tt hK ht1; replace hB := Bx hB ht1; replace hA := ht1.new
 replace hH : Hp _ _ _ (obC b_r [.slice none 0 0, .slice none 0 0, .slice none 0 0] 26 :: []) := hH1
 refine To ?_
 refine Sr ?_
 refine V_allocH (Dw := False) (B := w.heap.size) hH zeroValue26 hB hA rfl ?_
 intro b_x w2 A2 hH2 ht2
 replace h_l := Sl.tr h_l ht2; replace hK := Tt hK ht2; replace hB := Bx hB ht2; replace hA := ht2.new
 replace hH : Hp _ _ _ (obC b_x [.slice none 0 0, .slice none 0 0, .slice none 0 0] 26 :: obC b_r [.slice none 0 0, .slice none 0 0, .slice none 0 0] 26 :: []) := hH2
 refine To ?_
 refine Sr ?_
 refine V_makeMapB (Dw := False) ByteArray (Option MRf) hH hB hA rfl ?_
 intro mb w3 A3 hH3 ht3
 replace h_l := Sl.tr h_l ht3; replace hK := Tt hK ht3; replace hB := Bx hB ht3; replace hA := ht3.new
 replace hH : Hp w.heap.size A3 w3 (obMO (κ := ByteArray) MRf idxIn mb [] :: obC b_x [.slice none 0 0, .slice none 0 0, .slice none 0 0] 26 :: obC b_r [.slice none 0 0, .slice none 0 0, .slice none 0 0] 26 :: []) := Hp.moNew MRf idxIn hH3 (i := 0) rfl
 refine V_allocH (Dw := False) (B := w.heap.size) hH zeroValue178 hB hA rfl ?_
 intro b_m w4 A4 hH4 ht4
 replace h_l := Sl.tr h_l ht4; replace hK := Tt hK ht4; replace hB := Bx hB ht4; replace hA := ht4.new
 refine V_storeC (Dw := False) (off := 0) (ds := [.map (some mb)]) hH4 (i := 0) rfl sizeOf178 rfl (Nat.le_of_ble_eq_true rfl) (by exact (List.forall_mem_cons.2 ⟨rfl, (fun _ h => nomatch h)⟩)) rfl hB hA rfl rfl ?_
 intro w5 hH5 ht5
 replace h_l := Sl.tr h_l ht5; replace hK := Tt hK ht5; replace hB := Bx hB ht5; replace hA := ht5.new
 have hH6 := Hp.addNil (α := Int) (e := 3) (Hp.addNil (α := Int) (e := 3) hH5)
 replace hH : Hp w.heap.size A4 w5 (obC b_m [.map (some mb)] 178 :: obMO MRf idxIn mb ([] : List (ByteArray × List (Int × know_Posting))) :: o_3 (.slice none 0 0) [] :: o_3 (.slice none 0 0) [] :: obC b_x [.slice none 0 0, .slice none 0 0, .slice none 0 0] 26 :: obC b_r [.slice none 0 0, .slice none 0 0, .slice none 0 0] 26 :: []) := Hp.front (Hp.front hH6 (i := 3) rfl) (i := 3) rfl
 clear hH1 hH2 hH3 hH4 hH5 hH6
 refine To ?_
 refine Sr (Vy (Y_makeFunc rfl rfl) (As (To ?_)))
 refine C_seq (Sr (Mm (Vy (Y_lenSl h_l rfl underlying22 rfl) (Mm (To ?_)))))
 have hnl := Sl.le h_l
 obtain ⟨o, ho, hm⟩ := Bs hm
 refine C_cutG (ι := ((List Int × List Int × List (ByteArray × List (Int × know_Posting))) × Value × Value × (Nat → Prop))) (fun ⟨s, v1, v2, A'⟩ => [(2, Pt b_r), (3, Pt b_x), (4, Pt b_m)]) (fun ⟨s, v1, v2, A'⟩ => fun w' => o = .fin s ∧ Hp w.heap.size A' w' (obC b_m [.map (some mb)] 178 :: obMO MRf idxIn mb s.2.2 :: o_3 v2 s.2.1 :: o_3 v1 s.1 :: obC b_x [v1, v2, .slice none 0 0] 26 :: obC b_r [.slice none 0 0, .slice none 0 0, .slice none 0 0] 26 :: []) ∧ Tr False w.heap.size A4 w5 A' w') ?_ ?_
 ·refine C_block ?_
  refine C_range ho (fun k s a w' => ∃ i : (Value × Value × (Nat → Prop)), Has ⟨130, [], none⟩ a ([(2, Pt b_r), (3, Pt b_x), (4, Pt b_m), (5, .func (.func 80) #[] #[Pt b_m]), (23, v_l), (24, Ii (l.length : Int)), (25, Ii (k : Int))]) ∧ Hp w.heap.size i.2.2 w' (obC b_m [.map (some mb)] 178 :: obMO MRf idxIn mb s.2.2 :: o_3 i.2.1 s.2.1 :: o_3 i.1 s.1 :: obC b_x [i.1, i.2.1, .slice none 0 0] 26 :: obC b_r [.slice none 0 0, .slice none 0 0, .slice none 0 0] 26 :: []) ∧ Tr False w.heap.size A4 w5 i.2.2 w') (fun a ha => ⟨(.slice none 0 0, .slice none 0 0, A4), ha.sb, hH, Tr.refl (Dw := False) hA⟩) ?_
  rintro K k ⟨ids, sizes, at_⟩ a w6 ⟨⟨v1, v2, A6⟩, ha6, hH6, hr⟩ hle K6 hfin
  refine C_of ?_ ha6
  replace h_l := Sl.tr h_l hr; replace hB := Nat.le_trans hB hr.ex.size; replace hA := hr.new
  replace hH : Hp _ _ _ (obC b_m [.map (some mb)] 178 :: obMO MRf idxIn mb at_ :: o_3 v2 sizes :: o_3 v1 ids :: obC b_x [v1, v2, .slice none 0 0] 26 :: obC b_r [.slice none 0 0, .slice none 0 0, .slice none 0 0] 26 :: []) := hH6
  refine Sr (Vy (Y_lss rfl rfl) (To ?_))
  refine C_seq ?_
  refine Cc (fun hc => ?_) fun hc => ?_
  ·have hlt := lt_of_dec hc
   obtain ⟨x, hx, hnx⟩ := K6 hlt
   unfold idxAtEntry at hx
   refine Sk ?_
   refine C_seq (C_block (Sr ?_))
   obtain ⟨e, he, hx⟩ := Bs hx
   refine V_indexAddr h_l he underlying22 sizeOf33 rfl rfl rfl ?_
   intro b7 o7 h7
   obtain ⟨h7a, _⟩ := El_know_Entry h7
   refine Vy (Y_loadA h7a isAgg33 sizeOf33 rfl) ?_
   refine V_alloc zeroValue33 rfl ?_
   intro b_v w8 h8
   refine Sn h8 sizeOf33 ?_
   intro w9 h9
   have hk9 := h9.kp (Dw := False)
   have h_v : El (α := know_Entry) A6 w9 b_v 0 e := h9.el hA ⟨[Ii e.id_], _, rfl, rfl, ⟨[.string e.title], _, rfl, rfl, rfl⟩⟩
   have ht9 := Kp.tr hk9 hA hB; replace hH := Hp.kp hH hk9; replace hr := Tt hr ht9; replace hB := Bx hB ht9; replace hA := ht9.new
   refine To ?_
   refine C_seq ?_
   refine C_region_ch (Dw := False) A6 8 [(1, 0), (1, 1), (1, 3), (1, 4), (2, 2), (2, 5), (1, 6), (1, 7)] Tryz_mixed (by kernel_rfl) (fun w10 hk10 => ?_)
   have ht10 := Kp.tr hk10 hA hB; replace hH := Hp.kp hH hk10; replace h_v := El.tr h_v ht10; replace hr := Tt hr ht10; replace hB := Bx hB ht10; replace hA := ht10.new
   refine CH_q2 rfl ?_
   have h_ti := El_know_Entry_1 h_v
   refine Qf underlying33 rfl sizeOf9 (VQ_CH (CH_q2 rfl (Ql (fun w' hw' => (El.str (El.keep h_ti (XA.ex hw')))) isAgg9 (VQ_CH (CH_q2 rfl ?_)))))
   have h_bo := El_know_Entry_2 h_v
   refine Qf underlying33 rfl sizeOf9 (VQ_CH (CH_q2 rfl (Ql (fun w' hw' => (El.str (El.keep h_bo (XA.ex hw')))) isAgg9 (VQ_CH ?_))))
   refine CH_l1 (k := 0) rfl ?_
   obtain ⟨wa, hwa, hx⟩ := Bs hx
   refine Vc call67 (portref2_WordsOf_c (Dw := False) w10 hA e.title hwa) ?_
   rintro va w11 ⟨_, rfl, h11, hk11⟩
   obtain ⟨A11, ht11, hH11⟩ := Hp.addOwnd (Dw := False) hH hB hA hk11 h11
   replace h_v := El.tr h_v ht11; replace hr := Tt hr ht11; replace hB := Bx hB ht11; replace hA := ht11.new
   refine V_CH (hk11) ?_
   refine CH_l1 (k := 0) rfl ?_
   obtain ⟨wb, hwb, hx⟩ := Bs hx
   refine Vc call67 (portref2_WordsOf_c (Dw := False) w11 hA e.body hwb) ?_
   rintro vb w12 ⟨_, rfl, h12, hk12⟩
   obtain ⟨A12, ht12, hH12⟩ := Hp.addOwnd (Dw := False) hH11 hB hA hk12 h12
   replace h_v := El.tr h_v ht12; replace hr := Tt hr ht12; replace hB := Bx hB ht12; replace hA := ht12.new
   refine V_CH (hk12) ?_
   refine CH_q2 rfl (Qa (VQ_CH (CH_q2 rfl (Qa (VQ_CH ?_)))))
   refine CH_tail ?_
   show V _ _ _ _ [] _ _
   refine To ?_
   obtain ⟨A13, ht13, h_b, hH13⟩ := Hp.freeze (Dw := False) hH12 (i := 0) rfl hA
   replace hr := Tt hr ht13; replace hA := ht13.new; replace h_v := El.tr h_v ht13
   obtain ⟨A14, ht14, h_a, hH14⟩ := Hp.freeze (Dw := False) hH13 (i := 0) rfl hA
   replace hr := Tt hr ht14; replace hA := ht14.new; replace h_v := El.tr h_v ht14; replace h_b := Sl.tr h_b ht14
   replace hH : Hp _ _ _ (obC b_m [.map (some mb)] 178 :: obMO MRf idxIn mb at_ :: o_3 v2 sizes :: o_3 v1 ids :: obC b_x [v1, v2, .slice none 0 0] 26 :: obC b_r [.slice none 0 0, .slice none 0 0, .slice none 0 0] 26 :: []) := hH14
   clear hH6 hH11 hH12 hH13 hH14
   obtain ⟨ids2, hids2, hx⟩ := Bs hx
   obtain ⟨sizes2, hsizes2, hx⟩ := Bs hx
   refine C_seq ?_
   refine C_cutG (ι := (Value × Value × (Nat → Prop))) (fun ⟨v17, v19, A19⟩ => [(2, Pt b_r), (3, Pt b_x), (4, Pt b_m), (5, .func (.func 80) #[] #[Pt b_m]), (23, v_l), (24, Ii (l.length : Int)), (25, Ii (k : Int)), (7, Pt b_v), (8, va), (9, vb)]) (fun ⟨v17, v19, A19⟩ => fun w' => Hp w.heap.size A19 w' (obC b_m [.map (some mb)] 178 :: obMO MRf idxIn mb at_ :: o_3 v19 sizes2 :: o_3 v17 ids2 :: obC b_x [v17, v19, .slice none 0 0] 26 :: obC b_r [.slice none 0 0, .slice none 0 0, .slice none 0 0] 26 :: []) ∧ Tr False w.heap.size A14 w12 A19 w') ?_ ?_
   ·refine C_region_chy (Dw := False) (fun k => A14 k ∨ k = b_x) 13 [12, 9, 11, 8, 10] [(1, 0), (1, 1), (1, 2), (1, 3), (1, 6), (1, 7), (1, 8), (1, 9), (1, 10), (1, 11), (1, 12), (2, 4), (3, 5), (1, 15)] [(3, 14), (4, 16), (1, 17), (4, 18)] Tryz_mixed (by kernel_rfl) (fun w15 hk15 => ?_)
    have ht15 := Kp.tr hk15 hA hB; replace hH := Hp.kp hH hk15; replace h_v := El.tr h_v ht15
    have hT : Tr False w.heap.size A14 w12 A14 w15 := ht15
    replace hB := Bx hB ht15; replace hA := ht15.new
    have hX := hH
    refine CHZ_q2 rfl (Qv (fun w' hw' => Y_fieldAddrC (off2 := 0) underlying26 rfl sizeOf23 (by decide) rfl rfl) (VQ_CHZ (CHZ_q2 rfl ?_)))
    refine VQ_y (fun w' hw' => Y_load ((World.cell?_of_block (hw'.2 _ (World.block_lt_of_cell? _ _ (Hp.cell (j := 0) hH (i := 4) rfl rfl)) (Or.inr rfl))).trans (Hp.cell (j := 0) hH (i := 4) rfl rfl)) isAgg23 rfl) rfl rfl rfl ?_
    refine VQ_CHZ (CHZ_q2 rfl ?_)
    have h_id := El_know_Entry_0 h_v
    refine Qf underlying33 rfl sizeOf3 (VQ_CHZ (CHZ_q2 rfl (Ql (fun w' hw' => (El.int (El.keep h_id (XA.ex (XA.inl hw'))))) isAgg3 (VQ_CHZ (CHZ_q2 rfl (Qv (fun w' hw' => Y_fieldAddrC (off2 := 1) underlying26 rfl sizeOf23 (by decide) rfl rfl) (VQ_CHZ (CHZ_q2 rfl ?_))))))))
    refine VQ_y (fun w' hw' => Y_load ((World.cell?_of_block (hw'.2 _ (World.block_lt_of_cell? _ _ (Hp.cell (j := 1) hH (i := 4) rfl rfl)) (Or.inr rfl))).trans (Hp.cell (j := 1) hH (i := 4) rfl rfl)) isAgg23 rfl) rfl rfl rfl ?_
    refine VQ_CHZ (CHZ_q2 rfl (Qm (VQ_CHZ (CHZ_q2 rfl (Qv (fun w' hw' => Y_lenSl h_a rfl underlying73 rfl) (VQ_CHZ (CHZ_q2 rfl (Qm (VQ_CHZ ?_)))))))))
    refine CHZ_q2 rfl (Qv (fun w' hw' => Y_lenSl h_b rfl underlying73 rfl) (VQ_CHZ (CHZ_q2 rfl (Qv (fun w' hw' => Y_addI rfl rfl) (VQ_CHZ ?_)))))
    refine CHZ_l1 (k := 0) [(2, 13), (2, 4), (3, 5), (1, 15), (3, 14), (4, 16), (1, 17), (4, 18)] rfl ?_ rfl ?_
    ·refine CH_l1 (k := 0) rfl ?_
     refine V_buildSlice (Dw := False) (cells := #[Ii (w64 ((wa.length : Int) + (wb.length : Int)))]) (l := ([w64 ((wa.length : Int) + (wb.length : Int))] : List Int)) (len := 1) underlying23 sizeOf3 zeroValue3 rfl (by generalize (w64 ((wa.length : Int) + (wb.length : Int)) : Int) = z; kernel_rfl) (show (1 * 1 : Nat) ≠ 0 by decide) (show (1 * 1 : Nat) ≤ 2 ^ 24 by decide) hA ⟨[Ii (w64 ((wa.length : Int) + (wb.length : Int)))], _, rfl, rfl, rfl⟩ rfl rfl ?_
     intro v18 w18 hk18 h18
     have ht18 := Kp.tr hk18 hA hB; replace hH := Hp.kp hH hk18; replace hT := Tt hT ht18; replace hB := Bx hB ht18; replace hA := ht18.new
     refine V_CH (hk18) ?_
     refine CH_l1 (k := 0) rfl ?_
     refine V_buildSlice (Dw := False) (l := ([e.id_] : List Int)) (len := 1) underlying23 sizeOf3 zeroValue3 rfl (by with_unfolding_all rfl) (show (1 * 1 : Nat) ≠ 0 by decide) (show (1 * 1 : Nat) ≤ 2 ^ 24 by decide) hA ⟨[Ii e.id_], _, rfl, rfl, rfl⟩ rfl rfl ?_
     intro v16 w16 hk16 h16
     have ht16 := Kp.tr hk16 hA hB; replace hH := Hp.kp hH hk16; replace h18 := Sl.tr h18 ht16; replace hT := Tt hT ht16; replace hB := Bx hB ht16; replace hA := ht16.new
     refine V_CH (hk16) ?_
     refine CH_l1 (k := 1) rfl ?_
     refine V_appendHs (Dw := False) (e := 3) (v := v1) (l := ids) (ti := t3) (bytes := 8) (lim := 17592186044416) hH (i := 3) rfl h16 hids2 underlying23 Tryz_info3 rfl rfl rfl rfl (by decide) (by decide) (by decide) hB hA rfl rfl rfl ?_
     intro v17 w17 A17 hH17 ht17 hs17
     replace h18 := Sl.tr h18 ht17; replace hT := Tt hT ht17; replace hB := Bx hB ht17; replace hA := ht17.new
     replace hH : Hp _ _ _ (obC b_m [.map (some mb)] 178 :: obMO MRf idxIn mb at_ :: o_3 v2 sizes :: o_3 v17 ids2 :: obC b_x [v1, v2, .slice none 0 0] 26 :: obC b_r [.slice none 0 0, .slice none 0 0, .slice none 0 0] 26 :: []) := hH17
     refine V_CHx (XA.addS hs17 (Hp.ownOff (α := Int) (e := 3) (v := v1) (l := ids) hX (i := 3) rfl (j := 4) rfl (by decide))) ?_
     refine CH_q2 rfl (Qv (fun w' hw' => Y_fieldAddrC (off2 := 0) underlying26 rfl sizeOf23 (by decide) rfl rfl) (VQ_CH ?_))
     refine CH_l1 (k := 1) rfl ?_
     refine V_appendHs (Dw := False) (e := 3) (v := v2) (l := sizes) (ti := t3) (bytes := 8) (lim := 17592186044416) hH (i := 2) rfl h18 hsizes2 underlying23 Tryz_info3 rfl rfl rfl rfl (by decide) (by decide) (by decide) hB hA rfl rfl rfl ?_
     intro v19 w19 A19 hH19 ht19 hs19
     replace hT := Tt hT ht19; replace hB := Bx hB ht19; replace hA := ht19.new
     replace hH : Hp _ _ _ (obC b_m [.map (some mb)] 178 :: obMO MRf idxIn mb at_ :: o_3 v19 sizes2 :: o_3 v17 ids2 :: obC b_x [v1, v2, .slice none 0 0] 26 :: obC b_r [.slice none 0 0, .slice none 0 0, .slice none 0 0] 26 :: []) := hH19
     refine V_CHx (XA.addS hs19 (Hp.ownOff (α := Int) (e := 3) (v := v2) (l := sizes) hX (i := 2) rfl (j := 4) rfl (by decide))) ?_
     refine CH_l1 (k := 2) rfl ?_
     have one17 : v17.oneCell' = true := by obtain ⟨_, _, e, _⟩ := Hp.form hH (i := 3) rfl; rw [e]; rfl
     refine V_storeC (Dw := False) (off := 0) (ds := [v17, v2, .slice none 0 0]) hH (i := 4) rfl sizeOf23 (cells_of_one one17) (Nat.le_of_ble_eq_true rfl) (cells_all_one one17) (by rw [Value.cells_one one17]; rfl) hB hA rfl rfl ?_
     intro w20 hH20 ht20
     replace hT := Tt hT ht20; replace hB := Bx hB ht20; replace hA := ht20.new
     replace hH : Hp _ _ _ (obC b_m [.map (some mb)] 178 :: obMO MRf idxIn mb at_ :: o_3 v19 sizes2 :: o_3 v17 ids2 :: obC b_x [v17, v2, .slice none 0 0] 26 :: obC b_r [.slice none 0 0, .slice none 0 0, .slice none 0 0] 26 :: []) := hH20
     refine V_CHw ?_
     refine CH_q2 rfl (Qv (fun w' hw' => Y_fieldAddrC (off2 := 1) underlying26 rfl sizeOf23 (by decide) rfl rfl) (VQ_CH ?_))
     refine CH_l1 (k := 2) rfl ?_
     have one19 : v19.oneCell' = true := by obtain ⟨_, _, e, _⟩ := Hp.form hH (i := 2) rfl; rw [e]; rfl
     refine V_storeC (Dw := False) (off := 1) (ds := [v17, v19, .slice none 0 0]) hH (i := 4) rfl sizeOf23 (cells_of_one one19) (Nat.le_of_ble_eq_true rfl) (cells_all_one one19) (by rw [Value.cells_one one19]; rfl) hB hA rfl rfl ?_
     intro w21 hH21 ht21
     replace hT := Tt hT ht21
     replace hH : Hp _ _ _ (obC b_m [.map (some mb)] 178 :: obMO MRf idxIn mb at_ :: o_3 v19 sizes2 :: o_3 v17 ids2 :: obC b_x [v17, v19, .slice none 0 0] 26 :: obC b_r [.slice none 0 0, .slice none 0 0, .slice none 0 0] 26 :: []) := hH21
     refine V_CHw ?_
     refine CH_tail ?_
     show V _ _ _ _ [] _ _
     exact V_end fun a ha => ⟨(v17, v19, A19), ha.sb, hH, hT⟩
    refine V_buildSlice (Dw := False) (l := ([e.id_] : List Int)) (len := 1) underlying23 sizeOf3 zeroValue3 rfl (by with_unfolding_all rfl) (show (1 * 1 : Nat) ≠ 0 by decide) (show (1 * 1 : Nat) ≤ 2 ^ 24 by decide) hA ⟨[Ii e.id_], _, rfl, rfl, rfl⟩ rfl rfl ?_
    intro v16 w16 hk16 h16
    have ht16 := Kp.tr hk16 hA hB; replace hH := Hp.kp hH hk16; replace hT := Tt hT ht16; replace hB := Bx hB ht16; replace hA := ht16.new
    refine V_CHZ (hk16) ?_
    refine CHZ_l1 (k := 1) [(2, 13), (3, 5), (1, 15), (3, 14), (4, 16), (1, 17), (4, 18)] rfl ?_ rfl ?_
    ·refine CH_l1 (k := 0) rfl ?_
     refine V_buildSlice (Dw := False) (cells := #[Ii (w64 ((wa.length : Int) + (wb.length : Int)))]) (l := ([w64 ((wa.length : Int) + (wb.length : Int))] : List Int)) (len := 1) underlying23 sizeOf3 zeroValue3 rfl (by generalize (w64 ((wa.length : Int) + (wb.length : Int)) : Int) = z; kernel_rfl) (show (1 * 1 : Nat) ≠ 0 by decide) (show (1 * 1 : Nat) ≤ 2 ^ 24 by decide) hA ⟨[Ii (w64 ((wa.length : Int) + (wb.length : Int)))], _, rfl, rfl, rfl⟩ rfl rfl ?_
     intro v18 w18 hk18 h18
     have ht18 := Kp.tr hk18 hA hB; replace hH := Hp.kp hH hk18; replace h16 := Sl.tr h16 ht18; replace hT := Tt hT ht18; replace hB := Bx hB ht18; replace hA := ht18.new
     refine V_CH (hk18) ?_
     refine CH_l1 (k := 1) rfl ?_
     refine V_appendHs (Dw := False) (e := 3) (v := v1) (l := ids) (ti := t3) (bytes := 8) (lim := 17592186044416) hH (i := 3) rfl h16 hids2 underlying23 Tryz_info3 rfl rfl rfl rfl (by decide) (by decide) (by decide) hB hA rfl rfl rfl ?_
     intro v17 w17 A17 hH17 ht17 hs17
     replace h18 := Sl.tr h18 ht17; replace hT := Tt hT ht17; replace hB := Bx hB ht17; replace hA := ht17.new
     replace hH : Hp _ _ _ (obC b_m [.map (some mb)] 178 :: obMO MRf idxIn mb at_ :: o_3 v2 sizes :: o_3 v17 ids2 :: obC b_x [v1, v2, .slice none 0 0] 26 :: obC b_r [.slice none 0 0, .slice none 0 0, .slice none 0 0] 26 :: []) := hH17
     refine V_CHx (XA.addS hs17 (Hp.ownOff (α := Int) (e := 3) (v := v1) (l := ids) hX (i := 3) rfl (j := 4) rfl (by decide))) ?_
     refine CH_q2 rfl (Qv (fun w' hw' => Y_fieldAddrC (off2 := 0) underlying26 rfl sizeOf23 (by decide) rfl rfl) (VQ_CH ?_))
     refine CH_l1 (k := 1) rfl ?_
     refine V_appendHs (Dw := False) (e := 3) (v := v2) (l := sizes) (ti := t3) (bytes := 8) (lim := 17592186044416) hH (i := 2) rfl h18 hsizes2 underlying23 Tryz_info3 rfl rfl rfl rfl (by decide) (by decide) (by decide) hB hA rfl rfl rfl ?_
     intro v19 w19 A19 hH19 ht19 hs19
     replace hT := Tt hT ht19; replace hB := Bx hB ht19; replace hA := ht19.new
     replace hH : Hp _ _ _ (obC b_m [.map (some mb)] 178 :: obMO MRf idxIn mb at_ :: o_3 v19 sizes2 :: o_3 v17 ids2 :: obC b_x [v1, v2, .slice none 0 0] 26 :: obC b_r [.slice none 0 0, .slice none 0 0, .slice none 0 0] 26 :: []) := hH19
     refine V_CHx (XA.addS hs19 (Hp.ownOff (α := Int) (e := 3) (v := v2) (l := sizes) hX (i := 2) rfl (j := 4) rfl (by decide))) ?_
     refine CH_l1 (k := 2) rfl ?_
     have one17 : v17.oneCell' = true := by obtain ⟨_, _, e, _⟩ := Hp.form hH (i := 3) rfl; rw [e]; rfl
     refine V_storeC (Dw := False) (off := 0) (ds := [v17, v2, .slice none 0 0]) hH (i := 4) rfl sizeOf23 (cells_of_one one17) (Nat.le_of_ble_eq_true rfl) (cells_all_one one17) (by rw [Value.cells_one one17]; rfl) hB hA rfl rfl ?_
     intro w20 hH20 ht20
     replace hT := Tt hT ht20; replace hB := Bx hB ht20; replace hA := ht20.new
     replace hH : Hp _ _ _ (obC b_m [.map (some mb)] 178 :: obMO MRf idxIn mb at_ :: o_3 v19 sizes2 :: o_3 v17 ids2 :: obC b_x [v17, v2, .slice none 0 0] 26 :: obC b_r [.slice none 0 0, .slice none 0 0, .slice none 0 0] 26 :: []) := hH20
     refine V_CHw ?_
     refine CH_q2 rfl (Qv (fun w' hw' => Y_fieldAddrC (off2 := 1) underlying26 rfl sizeOf23 (by decide) rfl rfl) (VQ_CH ?_))
     refine CH_l1 (k := 2) rfl ?_
     have one19 : v19.oneCell' = true := by obtain ⟨_, _, e, _⟩ := Hp.form hH (i := 2) rfl; rw [e]; rfl
     refine V_storeC (Dw := False) (off := 1) (ds := [v17, v19, .slice none 0 0]) hH (i := 4) rfl sizeOf23 (cells_of_one one19) (Nat.le_of_ble_eq_true rfl) (cells_all_one one19) (by rw [Value.cells_one one19]; rfl) hB hA rfl rfl ?_
     intro w21 hH21 ht21
     replace hT := Tt hT ht21
     replace hH : Hp _ _ _ (obC b_m [.map (some mb)] 178 :: obMO MRf idxIn mb at_ :: o_3 v19 sizes2 :: o_3 v17 ids2 :: obC b_x [v17, v19, .slice none 0 0] 26 :: obC b_r [.slice none 0 0, .slice none 0 0, .slice none 0 0] 26 :: []) := hH21
     refine V_CHw ?_
     refine CH_tail ?_
     show V _ _ _ _ [] _ _
     exact V_end fun a ha => ⟨(v17, v19, A19), ha.sb, hH, hT⟩
    refine V_appendHs (Dw := False) (e := 3) (v := v1) (l := ids) (ti := t3) (bytes := 8) (lim := 17592186044416) hH (i := 3) rfl h16 hids2 underlying23 Tryz_info3 rfl rfl rfl rfl (by decide) (by decide) (by decide) hB hA rfl rfl rfl ?_
    intro v17 w17 A17 hH17 ht17 hs17
    replace hT := Tt hT ht17; replace hB := Bx hB ht17; replace hA := ht17.new
    replace hH : Hp _ _ _ (obC b_m [.map (some mb)] 178 :: obMO MRf idxIn mb at_ :: o_3 v2 sizes :: o_3 v17 ids2 :: obC b_x [v1, v2, .slice none 0 0] 26 :: obC b_r [.slice none 0 0, .slice none 0 0, .slice none 0 0] 26 :: []) := hH17
    refine V_CHZx (XA.addS hs17 (Hp.ownOff (α := Int) (e := 3) (v := v1) (l := ids) hX (i := 3) rfl (j := 4) rfl (by decide))) ?_
    refine CHZ_q2 rfl (Qv (fun w' hw' => Y_fieldAddrC (off2 := 0) underlying26 rfl sizeOf23 (by decide) rfl rfl) (VQ_CHZ ?_))
    refine CHZ_nil ?_
    refine CH_l1 (k := 0) rfl ?_
    refine V_buildSlice (Dw := False) (cells := #[Ii (w64 ((wa.length : Int) + (wb.length : Int)))]) (l := ([w64 ((wa.length : Int) + (wb.length : Int))] : List Int)) (len := 1) underlying23 sizeOf3 zeroValue3 rfl (by generalize (w64 ((wa.length : Int) + (wb.length : Int)) : Int) = z; kernel_rfl) (show (1 * 1 : Nat) ≠ 0 by decide) (show (1 * 1 : Nat) ≤ 2 ^ 24 by decide) hA ⟨[Ii (w64 ((wa.length : Int) + (wb.length : Int)))], _, rfl, rfl, rfl⟩ rfl rfl ?_
    intro v18 w18 hk18 h18
    have ht18 := Kp.tr hk18 hA hB; replace hH := Hp.kp hH hk18; replace hT := Tt hT ht18; replace hB := Bx hB ht18; replace hA := ht18.new
    refine V_CH (hk18) ?_
    refine CH_l1 (k := 1) rfl ?_
    refine V_appendHs (Dw := False) (e := 3) (v := v2) (l := sizes) (ti := t3) (bytes := 8) (lim := 17592186044416) hH (i := 2) rfl h18 hsizes2 underlying23 Tryz_info3 rfl rfl rfl rfl (by decide) (by decide) (by decide) hB hA rfl rfl rfl ?_
    intro v19 w19 A19 hH19 ht19 hs19
    replace hT := Tt hT ht19; replace hB := Bx hB ht19; replace hA := ht19.new
    replace hH : Hp _ _ _ (obC b_m [.map (some mb)] 178 :: obMO MRf idxIn mb at_ :: o_3 v19 sizes2 :: o_3 v17 ids2 :: obC b_x [v1, v2, .slice none 0 0] 26 :: obC b_r [.slice none 0 0, .slice none 0 0, .slice none 0 0] 26 :: []) := hH19
    refine V_CHx (XA.addS hs19 (Hp.ownOff (α := Int) (e := 3) (v := v2) (l := sizes) hX (i := 2) rfl (j := 4) rfl (by decide))) ?_
    refine CH_l1 (k := 2) rfl ?_
    have one17 : v17.oneCell' = true := by obtain ⟨_, _, e, _⟩ := Hp.form hH (i := 3) rfl; rw [e]; rfl
    refine V_storeC (Dw := False) (off := 0) (ds := [v17, v2, .slice none 0 0]) hH (i := 4) rfl sizeOf23 (cells_of_one one17) (Nat.le_of_ble_eq_true rfl) (cells_all_one one17) (by rw [Value.cells_one one17]; rfl) hB hA rfl rfl ?_
    intro w20 hH20 ht20
    replace hT := Tt hT ht20; replace hB := Bx hB ht20; replace hA := ht20.new
    replace hH : Hp _ _ _ (obC b_m [.map (some mb)] 178 :: obMO MRf idxIn mb at_ :: o_3 v19 sizes2 :: o_3 v17 ids2 :: obC b_x [v17, v2, .slice none 0 0] 26 :: obC b_r [.slice none 0 0, .slice none 0 0, .slice none 0 0] 26 :: []) := hH20
    refine V_CHw ?_
    refine CH_q2 rfl (Qv (fun w' hw' => Y_fieldAddrC (off2 := 1) underlying26 rfl sizeOf23 (by decide) rfl rfl) (VQ_CH ?_))
    refine CH_l1 (k := 2) rfl ?_
    have one19 : v19.oneCell' = true := by obtain ⟨_, _, e, _⟩ := Hp.form hH (i := 2) rfl; rw [e]; rfl
    refine V_storeC (Dw := False) (off := 1) (ds := [v17, v19, .slice none 0 0]) hH (i := 4) rfl sizeOf23 (cells_of_one one19) (Nat.le_of_ble_eq_true rfl) (cells_all_one one19) (by rw [Value.cells_one one19]; rfl) hB hA rfl rfl ?_
    intro w21 hH21 ht21
    replace hT := Tt hT ht21
    replace hH : Hp _ _ _ (obC b_m [.map (some mb)] 178 :: obMO MRf idxIn mb at_ :: o_3 v19 sizes2 :: o_3 v17 ids2 :: obC b_x [v17, v19, .slice none 0 0] 26 :: obC b_r [.slice none 0 0, .slice none 0 0, .slice none 0 0] 26 :: []) := hH21
    refine V_CHw ?_
    refine CH_tail ?_
    show V _ _ _ _ [] _ _
    exact V_end fun a ha => ⟨(v17, v19, A19), ha.sb, hH, hT⟩
   rintro ⟨v17, v19, A19⟩ w21 ⟨hH21, ht21⟩ a21 ha21
   replace h_v := El.tr h_v ht21; replace h_a := Sl.tr h_a ht21; replace h_b := Sl.tr h_b ht21; replace hr := Tt hr ht21; replace hB := Bx hB ht21; replace hA := ht21.new
   replace hH : Hp _ _ _ (obC b_m [.map (some mb)] 178 :: obMO MRf idxIn mb at_ :: o_3 v19 sizes2 :: o_3 v17 ids2 :: obC b_x [v17, v19, .slice none 0 0] 26 :: obC b_r [.slice none 0 0, .slice none 0 0, .slice none 0 0] 26 :: []) := hH21
   refine C_at (n := ⟨130, [], none⟩) (fun _ _ => rfl) ?_ ha21
   refine C_seq (Sr (Mm (Vy (Y_lenSl h_a rfl underlying73 rfl) (Mm (To ?_)))))
   have hnwa := Sl.le h_a
   obtain ⟨o1, ho1, hx⟩ := Bs hx
   refine C_cutG (ι := (List (ByteArray × List (Int × know_Posting)) × (Nat → Prop))) (fun ⟨s, A'⟩ => [(2, Pt b_r), (3, Pt b_x), (4, Pt b_m), (5, .func (.func 80) #[] #[Pt b_m]), (23, v_l), (24, Ii (l.length : Int)), (25, Ii (k : Int)), (7, Pt b_v), (9, vb)]) (fun ⟨s, A'⟩ => fun w' => o1 = .fin s ∧ Hp w.heap.size A' w' (obC b_m [.map (some mb)] 178 :: obMO MRf idxIn mb s :: o_3 v19 sizes2 :: o_3 v17 ids2 :: obC b_x [v17, v19, .slice none 0 0] 26 :: obC b_r [.slice none 0 0, .slice none 0 0, .slice none 0 0] 26 :: []) ∧ Tr False w.heap.size A19 w21 A' w') ?_ ?_
   ·refine C_block ?_
    refine C_range ho1 (fun k2 s a w' => ∃ i : (Nat → Prop), Has ⟨130, [], none⟩ a ([(2, Pt b_r), (3, Pt b_x), (4, Pt b_m), (5, .func (.func 80) #[] #[Pt b_m]), (23, v_l), (24, Ii (l.length : Int)), (25, Ii (k : Int)), (7, Pt b_v), (9, vb), (52, va), (53, Ii (wa.length : Int)), (54, Ii (k2 : Int))]) ∧ Hp w.heap.size i w' (obC b_m [.map (some mb)] 178 :: obMO MRf idxIn mb s :: o_3 v19 sizes2 :: o_3 v17 ids2 :: obC b_x [v17, v19, .slice none 0 0] 26 :: obC b_r [.slice none 0 0, .slice none 0 0, .slice none 0 0] 26 :: []) ∧ Tr False w.heap.size A19 w21 i w') (fun a ha => ⟨A19, ha.sb, hH, Tr.refl (Dw := False) hA⟩) ?_
    rintro K2 k2 s a w22 ⟨A22, ha22, hH22, hr2⟩ hle2 K22 hfin2
    refine C_of ?_ ha22
    replace h_a := Sl.tr h_a hr2; replace h_v := El.tr h_v hr2; replace hB := Bx hB hr2; replace hA := hr2.new
    replace hH : Hp _ _ _ (obC b_m [.map (some mb)] 178 :: obMO MRf idxIn mb s :: o_3 v19 sizes2 :: o_3 v17 ids2 :: obC b_x [v17, v19, .slice none 0 0] 26 :: obC b_r [.slice none 0 0, .slice none 0 0, .slice none 0 0] 26 :: []) := hH22
    refine Sr (Vy (Y_lss rfl rfl) (To ?_))
    refine C_seq ?_
    refine Cc (fun hc2 => ?_) fun hc2 => ?_
    ·have hlt2 := lt_of_dec hc2
     obtain ⟨x2, hx2, hnx2⟩ := K22 hlt2
     unfold idxAtWord at hx2
     refine Sk ?_
     refine C_seq (C_block (Sr (Mm ?_)))
     obtain ⟨wd, hwd, hx2⟩ := Bs hx2
     refine V_indexAddr h_a hwd underlying73 sizeOf9 rfl rfl rfl ?_
     intro b23 o23 h23
     refine Ld (El.str h23) isAgg9 (As (As (To ?_)))
     refine C_region_qt (Dw := False) 6 Tryz_mixed (by kernel_rfl) ?_
     simp only [List.take, List.drop]
     refine Qm (Qm ?_)
     obtain ⟨t, hst, hx2⟩ := Bs hx2
     refine VQ_call (.string t) call81 rfl rfl rfl rfl (fun w' hw' => (portref2_StemOf_c w' (fun b hb => hA b (Nat.le_trans hw'.size hb)) wd hst).mono (fun _ _ h => ⟨h.1, Kp.trans (Dw := False) hw' h.2⟩)) ?_
     have h_id2 := El_know_Entry_0 h_v
     refine Qf underlying33 rfl sizeOf3 (Qi h_id2 isAgg3 (Qm ?_))
     refine VQ_tail (fun w24 hk24 => ?_)
     try simp only [List.take, List.drop]
     have ht24 := Kp.tr hk24 hA hB; replace hH := Hp.kp hH hk24; replace hr2 := Tt hr2 ht24; replace hB := Bx hB ht24; replace hA := ht24.new
     obtain ⟨m3, hm3, hx2⟩ := Bs hx2
     refine Vc call80 (portref2_indexOf_put_c w24 hB hA t e.id_ (k2 : Int) true b_m mb s hH hm3) ?_
     rintro _ w25 ⟨A25, rfl, hH25, ht25⟩
     replace hr2 := Tt hr2 ht25
     refine To ?_
     refine C_region (Vy (Y_addI rfl rfl) (Mm ?_))
     obtain rfl := Oi hx2
     refine V_end (fun a ha => ?_)
     exact ⟨m3, hlt2, hnx2, ⟨A25, ha.sub ⟨rfl, rfl, rfl, rfl, rfl, rfl, rfl, rfl, rfl, rfl, rfl, Ws hlt2 hnwa, trivial⟩, hH25, hr2⟩⟩
    refine C_exit (fun a ha => ?_)
    exact ⟨(s, A22), ha.sb, ⟨(hfin2 (eq_of_dec hle2 hc2)).symm, hH, hr2⟩⟩
   rintro ⟨m1, A30⟩ w30 ⟨rfl, hH30, ht30⟩ a ha30
   rw [Lp.andThen_fin] at hx
   replace h_v := El.tr h_v ht30; replace h_b := Sl.tr h_b ht30; replace hr := Tt hr ht30; replace hB := Bx hB ht30; replace hA := ht30.new
   replace hH : Hp _ _ _ (obC b_m [.map (some mb)] 178 :: obMO MRf idxIn mb m1 :: o_3 v19 sizes2 :: o_3 v17 ids2 :: obC b_x [v17, v19, .slice none 0 0] 26 :: obC b_r [.slice none 0 0, .slice none 0 0, .slice none 0 0] 26 :: []) := hH30
   refine C_at (n := ⟨130, [], none⟩) (fun _ _ => rfl) ?_ ha30
   refine Sr (Mm (Vy (Y_lenSl h_b rfl underlying73 rfl) (Mm (To ?_))))
   have hnwb := Sl.le h_b
   obtain ⟨o2, ho2, hx⟩ := Bs hx
   refine C_cutG (ι := (List (ByteArray × List (Int × know_Posting)) × (Nat → Prop))) (fun ⟨s, A'⟩ => [(2, Pt b_r), (3, Pt b_x), (4, Pt b_m), (5, .func (.func 80) #[] #[Pt b_m]), (23, v_l), (24, Ii (l.length : Int)), (25, Ii (k : Int)), (7, Pt b_v)]) (fun ⟨s, A'⟩ => fun w' => o2 = .fin s ∧ Hp w.heap.size A' w' (obC b_m [.map (some mb)] 178 :: obMO MRf idxIn mb s :: o_3 v19 sizes2 :: o_3 v17 ids2 :: obC b_x [v17, v19, .slice none 0 0] 26 :: obC b_r [.slice none 0 0, .slice none 0 0, .slice none 0 0] 26 :: []) ∧ Tr False w.heap.size A30 w30 A' w') ?_ ?_
   ·refine C_block ?_
    refine C_range ho2 (fun k2 s a w' => ∃ i : (Nat → Prop), Has ⟨130, [], none⟩ a ([(2, Pt b_r), (3, Pt b_x), (4, Pt b_m), (5, .func (.func 80) #[] #[Pt b_m]), (23, v_l), (24, Ii (l.length : Int)), (25, Ii (k : Int)), (7, Pt b_v), (67, vb), (68, Ii (wb.length : Int)), (69, Ii (k2 : Int))]) ∧ Hp w.heap.size i w' (obC b_m [.map (some mb)] 178 :: obMO MRf idxIn mb s :: o_3 v19 sizes2 :: o_3 v17 ids2 :: obC b_x [v17, v19, .slice none 0 0] 26 :: obC b_r [.slice none 0 0, .slice none 0 0, .slice none 0 0] 26 :: []) ∧ Tr False w.heap.size A30 w30 i w') (fun a ha => ⟨A30, ha.sb, hH, Tr.refl (Dw := False) hA⟩) ?_
    rintro K2 k2 s a w22 ⟨A22, ha22, hH22, hr2⟩ hle2 K22 hfin2
    refine C_of ?_ ha22
    replace h_b := Sl.tr h_b hr2; replace h_v := El.tr h_v hr2; replace hB := Bx hB hr2; replace hA := hr2.new
    replace hH : Hp _ _ _ (obC b_m [.map (some mb)] 178 :: obMO MRf idxIn mb s :: o_3 v19 sizes2 :: o_3 v17 ids2 :: obC b_x [v17, v19, .slice none 0 0] 26 :: obC b_r [.slice none 0 0, .slice none 0 0, .slice none 0 0] 26 :: []) := hH22
    refine Sr (Vy (Y_lss rfl rfl) (To ?_))
    refine C_seq ?_
    refine Cc (fun hc2 => ?_) fun hc2 => ?_
    ·have hlt2 := lt_of_dec hc2
     obtain ⟨x2, hx2, hnx2⟩ := K22 hlt2
     unfold idxAtWord at hx2
     refine Sk ?_
     refine C_seq (C_block (Sr (Mm ?_)))
     obtain ⟨wd, hwd, hx2⟩ := Bs hx2
     refine V_indexAddr h_b hwd underlying73 sizeOf9 rfl rfl rfl ?_
     intro b23 o23 h23
     refine Ld (El.str h23) isAgg9 (As (As (To ?_)))
     refine C_region_qt (Dw := False) 6 Tryz_mixed (by kernel_rfl) ?_
     simp only [List.take, List.drop]
     refine Qm (Qm ?_)
     obtain ⟨t, hst, hx2⟩ := Bs hx2
     refine VQ_call (.string t) call81 rfl rfl rfl rfl (fun w' hw' => (portref2_StemOf_c w' (fun b hb => hA b (Nat.le_trans hw'.size hb)) wd hst).mono (fun _ _ h => ⟨h.1, Kp.trans (Dw := False) hw' h.2⟩)) ?_
     have h_id2 := El_know_Entry_0 h_v
     refine Qf underlying33 rfl sizeOf3 (Qi h_id2 isAgg3 (Qm ?_))
     refine VQ_tail (fun w24 hk24 => ?_)
     try simp only [List.take, List.drop]
     have ht24 := Kp.tr hk24 hA hB; replace hH := Hp.kp hH hk24; replace hr2 := Tt hr2 ht24; replace hB := Bx hB ht24; replace hA := ht24.new
     obtain ⟨m3, hm3, hx2⟩ := Bs hx2
     refine Vc call80 (portref2_indexOf_put_c w24 hB hA t e.id_ (k2 : Int) false b_m mb s hH hm3) ?_
     rintro _ w25 ⟨A25, rfl, hH25, ht25⟩
     replace hr2 := Tt hr2 ht25
     refine To ?_
     refine C_region (Vy (Y_addI rfl rfl) (Mm ?_))
     obtain rfl := Oi hx2
     refine V_end (fun a ha => ?_)
     exact ⟨m3, hlt2, hnx2, ⟨A25, ha.sub ⟨rfl, rfl, rfl, rfl, rfl, rfl, rfl, rfl, rfl, rfl, Ws hlt2 hnwb, trivial⟩, hH25, hr2⟩⟩
    refine C_exit (fun a ha => ?_)
    exact ⟨(s, A22), ha.sb, ⟨(hfin2 (eq_of_dec hle2 hc2)).symm, hH, hr2⟩⟩
   rintro ⟨m2, A31⟩ w31 ⟨rfl, hH30, ht30⟩ a ha30
   rw [Lp.andThen_fin] at hx
   replace hr := Tt hr ht30
   replace hH : Hp _ _ _ (obC b_m [.map (some mb)] 178 :: obMO MRf idxIn mb m2 :: o_3 v19 sizes2 :: o_3 v17 ids2 :: obC b_x [v17, v19, .slice none 0 0] 26 :: obC b_r [.slice none 0 0, .slice none 0 0, .slice none 0 0] 26 :: []) := hH30
   refine C_at (n := ⟨130, [], none⟩) (fun _ _ => rfl) ?_ ha30
   refine C_region (Vy (Y_addI rfl rfl) (Mm ?_))
   obtain rfl := Oi hx
   refine V_end (fun a ha => ?_)
   exact ⟨(ids2, sizes2, m2), hlt, hnx, ⟨(v17, v19, A31), ha.sub ⟨rfl, rfl, rfl, rfl, rfl, rfl, Ws hlt hnl, trivial⟩, hH, hr⟩⟩
  refine C_exit (fun a ha => ?_)
  exact ⟨((ids, sizes, at_), v1, v2, A6), ha.sb, ⟨(hfin (eq_of_dec hle hc)).symm, hH, hr⟩⟩
 rintro ⟨⟨ids, sizes, at_⟩, v1, v2, A6⟩ w6 ⟨rfl, hH6, ht6⟩ a ha6
 rw [Lp.andThen_fin] at hm
 dsimp only at hm
 split at hm
 case isFalse => cases hm
 rename_i hsz
 replace hK := Tt hK ht6; replace hB := Bx hB ht6; replace hA := ht6.new
 replace hH : Hp _ _ _ (obC b_m [.map (some mb)] 178 :: obMO MRf idxIn mb at_ :: o_3 v2 sizes :: o_3 v1 ids :: obC b_x [v1, v2, .slice none 0 0] 26 :: obC b_r [.slice none 0 0, .slice none 0 0, .slice none 0 0] 26 :: []) := hH6
 clear hH6
 have hnd := Hp.moNodup hH (i := 1) rfl
 obtain ⟨A7, f0, hP, hf0, hsub, ht7, hH7⟩ := Hp.frz (Dw := False) hH (i := 1) rfl hA
 obtain ⟨rs, hrl, hF, hPo⟩ := moPersist hP hf0
 replace hK := Tt hK ht7; replace hA := ht7.new
 have hIn : ∀ (j : Nat) (r : MRf) (p : ByteArray × List (Int × know_Posting)), rs[j]? = some r → at_[j]? = some p → ∃ qs : List Ptr, qs.length = p.2.length ∧ FMb A7 w6 r.b (moE p.2 qs) ∧ ∀ (j2 : Nat) (r2 : Ptr) (p2 : Int × know_Posting), qs[j2]? = some r2 → p.2[j2]? = some p2 → El (α := know_Posting) A7 w6 r2.b 0 p2.2 := fun j r p h1 h2 => by
  obtain ⟨fb, h3, h4⟩ := hPo j r p h1 h2
  obtain ⟨qs, q1, q2, q3⟩ := moPersist (R := Ptr) (f := idxPo) (A1 := A7) h3 h4
  refine ⟨qs, q1, q2, fun j2 r2 p2 h5 h6 => ?_⟩
  obtain ⟨fc, h7, h8⟩ := q3 j2 r2 p2 h5 h6
  exact idxPo_el h7 h8
 clear hP hf0 hPo
 have HC : Hp w.heap.size A7 w6 (obC b_m [.map (some mb)] 178 :: o_3 v2 sizes :: o_3 v1 ids :: obC b_x [v1, v2, .slice none 0 0] 26 :: obC b_r [.slice none 0 0, .slice none 0 0, .slice none 0 0] 26 :: []) := hH7
 refine C_at (n := ⟨130, [], none⟩) (fun _ _ => rfl) ?_ ha6
 refine Sr (As (To ?_))
 replace hH : Hp w.heap.size A7 w6 (o_9 (.slice none 0 0) [] :: obC b_m [.map (some mb)] 178 :: o_3 v2 sizes :: o_3 v1 ids :: obC b_x [v1, v2, .slice none 0 0] 26 :: obC b_r [.slice none 0 0, .slice none 0 0, .slice none 0 0] 26 :: []) := Hp.addNil (α := ByteArray) (e := 9) HC
 clear HC hH7
 refine C_seq (Sr (Ld (Hp.cell (j := 0) hH (i := 1) rfl rfl) isAgg178 ?_))
 obtain ⟨hFA, hFl, hFn, es, clk, hFq, hFe, hFb, hFd⟩ := hF
 refine V_rangeF (Dw := False) hH hFq rfl hB hA rfl underlying178 ?_
 intro rb w8 A8 hH8 ht8
 have hF8 : FMb A8 w8 mb (moE at_ rs) := FMb.tr (Dw := False) ⟨hFA, hFl, hFn, es, clk, hFq, hFe, hFb, hFd⟩ ht8
 have hes : es.size = at_.length := by
  have := congrArg List.length hFe
  simp [moE, hrl] at this
  omega
 replace hK := Tt hK ht8; replace hB := Bx hB ht8; replace hA := ht8.new
 refine To ?_
 refine C_cutG (ι := (List MapEntry × Value × Array Nat × Nat × (Nat → Prop))) (fun ⟨vis, vs, seen, c0, A'⟩ => [(2, Pt b_r), (3, Pt b_x), (4, Pt b_m), (14, vs)]) (fun ⟨vis, vs, seen, c0, A'⟩ => fun w' => (vis.map (·.born)).Perm (es.toList.map (·.born)) ∧ (∀ x ∈ vis, x ∈ es.toList) ∧ (∃ st : List ByteArray, vis.map (·.key) = st.map Value.string ∧ Hp w.heap.size A' w' (o_9 vs st :: obC b_m [.map (some mb)] 178 :: o_3 v2 sizes :: o_3 v1 ids :: obC b_x [v1, v2, .slice none 0 0] 26 :: obC b_r [.slice none 0 0, .slice none 0 0, .slice none 0 0] 26 :: [])) ∧ Tr False w.heap.size A8 w8 A' w') ?_ ?_
 ·refine C_block ?_
  refine C_loop (fun m a w' => ∃ (vis : List MapEntry) (vs : Value) (st : List ByteArray) (seen : Array Nat) (c0 : Nat) (A' : Nat → Prop), m = (leftOf es seen).size ∧ clk ≤ c0 ∧ seen.toList = vis.map (·.born) ∧ (∀ x ∈ vis, x ∈ es.toList) ∧ (vis.map (·.born)).Nodup ∧ vis.map (·.key) = st.map Value.string ∧ Has ⟨130, [], none⟩ a [(2, Pt b_r), (3, Pt b_x), (4, Pt b_m), (14, vs), (84, Pt rb)] ∧ Hp w.heap.size A' w' (obO rb (.mapIter (some mb) clk seen c0) :: o_9 vs st :: obC b_m [.map (some mb)] 178 :: o_3 v2 sizes :: o_3 v1 ids :: obC b_x [v1, v2, .slice none 0 0] 26 :: obC b_r [.slice none 0 0, .slice none 0 0, .slice none 0 0] 26 :: []) ∧ Tr False w.heap.size A8 w8 A' w') _ (fun a ha => ⟨[], .slice none 0 0, [], #[], clk, A8, rfl, Nat.le_refl _, rfl, (fun _ h => nomatch h), List.nodup_nil, rfl, ha.sb, hH8, Tr.refl (Dw := False) hA⟩) ?_
  rintro m a w9 ⟨vis, vs, st, seen, c0, A9, rfl, hc0, hseen, hvis, hvn, hkey, ha9, hH9, hr⟩
  replace hB := Nat.le_trans hB hr.ex.size; replace hA := hr.new
  have hF9 : FMb A9 w9 mb (moE at_ rs) := FMb.tr (Dw := False) hF8 hr
  have hq9 : w9.heap[mb]? = some (.map es clk) := by
   have h1 := (ht8.ex.block mb hFl hFA)
   have h2 := hr.ex.block mb hF8.2.1 hF8.1
   rw [h2.2, h1.2]
   exact hFq
  refine C_of ?_ ha9
  refine Sr ?_
  refine V_nextF (Dw := False) hH9 hq9 (j := 0) rfl rfl hFb hc0 hB hA rfl ?_ ?_
  ·intro h0
   refine Vy (Y_extract rfl rfl) (To ?_)
   refine C_seq ?_
   refine C_false rfl ?_
   refine C_exit (fun a ha => ?_)
   exact ⟨(vis, vs, seen, c0, A9), ha.sb, left_done hseen hvis hvn hFd h0, hvis, ⟨st, hkey, Hp.drop hH9 (i := 0) rfl⟩, hr⟩
  intro en w10 hen hH10 ht10
  replace hr := Tt hr ht10; replace hB := Bx hB ht10; replace hA := ht10.new
  have hem := mem_left hen
  have hq10 : w10.heap[mb]? = some (.map es clk) := by
   rw [(ht10.ex.block mb hF9.2.1 hF9.1).2]
   exact hq9
  obtain ⟨pk, hpk, hkeyp, _⟩ := sm_keys hFe en hem.1
  replace hH : Hp _ _ _ (obO rb (.mapIter (some mb) clk (seen.push en.born) clk) :: o_9 vs st :: obC b_m [.map (some mb)] 178 :: o_3 v2 sizes :: o_3 v1 ids :: obC b_x [v1, v2, .slice none 0 0] 26 :: obC b_r [.slice none 0 0, .slice none 0 0, .slice none 0 0] 26 :: []) := hH10
  have hkeyp2 : en.key = .string pk.1 := hkeyp
  refine Vy (Y_extract rfl rfl) (To ?_)
  refine C_seq ?_
  refine C_true rfl ?_
  refine Sk ?_
  refine C_block (Sr (Vy (Y_entryF (e := en) hH hq10 (j := 0) rfl rfl hem.1 hFd) ?_))
  rw [hkeyp2]
  refine Vy (Y_extract rfl rfl) (As (To ?_))
  refine C_region (Mm (Mm ?_))
  refine V_buildSlice (Dw := False) (l := ([pk.1] : List ByteArray)) (len := 1) underlying73 sizeOf9 zeroValue9 rfl (by with_unfolding_all rfl) (show (1 * 1 : Nat) ≠ 0 by decide) (show (1 * 1 : Nat) ≤ 2 ^ 24 by decide) hA ⟨[.string pk.1], _, rfl, rfl, rfl⟩ rfl rfl ?_
  intro v11 w11 hk11 h11
  have ht11 := Kp.tr hk11 hA hB; replace hH := Hp.kp hH hk11; replace hr := Tt hr ht11; replace hB := Bx hB ht11; replace hA := ht11.new
  have hlen : (vis ++ [en]).length ≤ at_.length := by
   have hn2 : ((vis ++ [en]).map (·.born)).Nodup := by
    rw [List.map_append, List.nodup_append]
    refine ⟨hvn, by simp, fun a ha b hb => ?_⟩
    simp at hb
    subst hb
    intro e
    rw [← hseen] at ha
    have h5 := hem.2
    simp at h5
    exact h5 (by rw [← e]; simpa using ha)
   have h6 : ∀ x ∈ (vis ++ [en]).map (·.born), x ∈ es.toList.map (·.born) := fun x hx => by
    obtain ⟨y, hy, rfl⟩ := List.mem_map.1 hx
    rcases List.mem_append.1 hy with h7 | h7
    ·exact List.mem_map_of_mem (hvis y h7)
    rw [List.mem_singleton] at h7
    subst h7
    exact List.mem_map_of_mem hem.1
   have h8 := nodup_le hn2 h6
   simp at h8
   simp
   omega
  have hst : st.length = vis.length := by
   have := congrArg List.length hkey
   simp at this
   exact this.symm
  refine V_appendH (Dw := False) (e := 9) (v := vs) (l := st) (r := st ++ [pk.1]) (ti := t9) (bytes := 16) (lim := 8796093022208) hH (i := 1) rfl h11 (by unfold appendL; rw [if_pos]; simp at hlen ⊢; omega) underlying73 Tryz_info9 rfl rfl rfl rfl (by decide) (by decide) (by decide) hB hA rfl rfl rfl ?_
  intro v12 w12 A12 hH12 ht12
  replace hr := Tt hr ht12
  refine As ?_
  refine V_end (fun a ha => ?_)
  refine ⟨_, left_shrinks es seen en hen, vis ++ [en], v12, st ++ [pk.1], seen.push en.born, clk, A12, rfl, Nat.le_refl _, by simp [hseen], ?_, ?_, ?_, ha.sb, hH12, hr⟩
  ·intro x hx
   rcases List.mem_append.1 hx with h7 | h7
   ·exact hvis x h7
   rw [List.mem_singleton] at h7
   subst h7
   exact hem.1
  ·rw [List.map_append, List.nodup_append]
   refine ⟨hvn, by simp, fun a ha b hb => ?_⟩
   simp at hb
   subst hb
   intro e
   rw [← hseen] at ha
   have h5 := hem.2
   simp at h5
   exact h5 (by rw [← e]; simpa using ha)
  rw [List.map_append, List.map_append, hkey]
  simp [hkeyp2]
 rintro ⟨vis, vs, seen, c0, A9⟩ w9 ⟨hperm, hvis, ⟨st, hkey, hH9⟩, ht9⟩ a ha9
 have hpst : st.Perm (at_.map (·.1)) := by
  have h1 : vis.Perm es.toList := by
   refine perm_born hFd hvis hperm
  have h2 : (st.map Value.string).Perm ((at_.map (·.1)).map Value.string) := by
   rw [← hkey]
   refine (h1.map (·.key)).trans ?_
   have h3 : es.toList.map (·.key) = ((moE at_ rs).map encE).map (·.1) := by rw [← hFe, List.map_map]; rfl
   rw [h3, List.map_map]
   have h4 : (moE at_ rs).map (Prod.fst ∘ encE) = ((moE at_ rs).map (·.1)).map Value.string := by rw [List.map_map]; rfl
   rw [h4, moE_keys hrl]
  exact perm_strings h2
 replace hK := Tt hK ht9; replace hB := Bx hB ht9; replace hA := ht9.new
 have hF9 : FMb A9 w9 mb (moE at_ rs) := FMb.tr (Dw := False) hF8 ht9
 replace hH : Hp _ _ _ (o_9 vs st :: obC b_m [.map (some mb)] 178 :: o_3 v2 sizes :: o_3 v1 ids :: obC b_x [v1, v2, .slice none 0 0] 26 :: obC b_r [.slice none 0 0, .slice none 0 0, .slice none 0 0] 26 :: []) := hH9
 clear hH8 hH9
 refine C_at (n := ⟨130, [], none⟩) (fun _ _ => rfl) ?_ ha9
 refine Sr (Mm ?_)
 obtain ⟨q, hq, hm⟩ := Bs hm
 rw [← sortStrs_perm hpst] at hq
 refine Vc call82 (Tryz_cp82 (Dw := False) hH (i := 0) rfl hB hA hq) ?_
 rintro _ w10 ⟨rfl, hH10, ht10⟩
 replace hK := Tt hK ht10; replace hB := Bx hB ht10; replace hA := ht10.new
 replace hF9 := FMb.tr (Dw := False) hF9 ht10
 refine To ?_
 obtain ⟨A11, ht11, h_q, hH11⟩ := Hp.freeze (Dw := False) hH10 (i := 0) rfl hA
 replace hK := Tt hK ht11; replace hA := ht11.new
 replace hF9 := FMb.tr (Dw := False) hF9 ht11
 have hTr := Tr.trans ht8 (Tr.trans ht9 (Tr.trans ht10 ht11))
 replace hH : Hp w.heap.size A11 w10 (o_83 (.slice none 0 0) [] :: obC b_m [.map (some mb)] 178 :: o_3 v2 sizes :: o_3 v1 ids :: obC b_x [v1, v2, .slice none 0 0] 26 :: obC b_r [.slice none 0 0, .slice none 0 0, .slice none 0 0] 26 :: []) := Hp.addNil (α := know_Term) (e := 83) hH11
 clear hH10 hH11
 refine C_seq (Sr (Mm (Vy (Y_lenSl h_q rfl underlying73 rfl) (Mm (To ?_)))))
 have hnq := Sl.le h_q
 obtain ⟨o2, ho2, hm⟩ := Bs hm
 refine C_cutG (ι := (List know_Term × Value × (Nat → Prop))) (fun ⟨s, v3, A'⟩ => [(2, Pt b_r), (3, Pt b_x), (4, Pt b_m)]) (fun ⟨s, v3, A'⟩ => fun w' => o2 = .fin s ∧ Hp w.heap.size A' w' (o_83 v3 s :: obC b_m [.map (some mb)] 178 :: o_3 v2 sizes :: o_3 v1 ids :: obC b_x [v1, v2, v3] 26 :: obC b_r [.slice none 0 0, .slice none 0 0, .slice none 0 0] 26 :: []) ∧ Tr False w.heap.size A11 w10 A' w') ?_ ?_
 ·refine C_block ?_
  refine C_range ho2 (fun k s a w' => ∃ i : (Value × (Nat → Prop)), Has ⟨130, [], none⟩ a ([(2, Pt b_r), (3, Pt b_x), (4, Pt b_m), (95, vs), (96, Ii (q.length : Int)), (97, Ii (k : Int))]) ∧ Hp w.heap.size i.2 w' (o_83 i.1 s :: obC b_m [.map (some mb)] 178 :: o_3 v2 sizes :: o_3 v1 ids :: obC b_x [v1, v2, i.1] 26 :: obC b_r [.slice none 0 0, .slice none 0 0, .slice none 0 0] 26 :: []) ∧ Tr False w.heap.size A11 w10 i.2 w') (fun a ha => ⟨(.slice none 0 0, A11), ha.sb, hH, Tr.refl (Dw := False) hA⟩) ?_
  rintro K k s a w12 ⟨⟨v3, A12⟩, ha12, hH12, hr⟩ hle K12 hfin
  refine C_of ?_ ha12
  replace h_q := Sl.tr h_q hr
  have hF12 := FMb.tr (Dw := False) hF9 hr
  replace hB := Nat.le_trans hB hr.ex.size; replace hA := hr.new
  replace hH : Hp _ _ _ (o_83 v3 s :: obC b_m [.map (some mb)] 178 :: o_3 v2 sizes :: o_3 v1 ids :: obC b_x [v1, v2, v3] 26 :: obC b_r [.slice none 0 0, .slice none 0 0, .slice none 0 0] 26 :: []) := hH12
  refine Sr (Vy (Y_lss rfl rfl) (To ?_))
  refine C_seq ?_
  refine Cc (fun hc => ?_) fun hc => ?_
  ·have hlt := lt_of_dec hc
   obtain ⟨x, hx, hnx⟩ := K12 hlt
   unfold idxTerm at hx
   refine Sk ?_
   refine C_seq (C_block (Sr ?_))
   obtain ⟨t, ht, hx⟩ := Bs hx
   refine V_indexAddr h_q ht underlying73 sizeOf9 rfl rfl rfl ?_
   intro b13 o13 h13
   refine Ld (El.str h13) isAgg9 (As (To ?_))
   obtain ⟨m, hmt, hx⟩ := Bs hx
   split at hx
   case isFalse => cases hx
   rename_i hmz
   obtain ⟨j, rf, hj, hrj, hg, _⟩ := moE_some (rs := rs) hrl hmt
   obtain ⟨qs, hql, hFi0, hEl0⟩ := hIn j rf (t, m) hrj hj
   have hFi := FMb.tr (Dw := False) hFi0 (Tr.trans hTr hr)
   have hEl := fun j2 r2 p2 h1 h2 => El.tr (hEl0 j2 r2 p2 h1 h2) (Tr.trans hTr hr)
   refine Sr (Mm ?_)
   refine Vy (Y_build underlying83 zeroValue83 (Tryz_places83 _ underlying83) rfl (by with_unfolding_all rfl)) ?_
   refine V_allocH (Dw := False) (B := w.heap.size) hH zeroValue83 hB hA rfl ?_
   intro b_t w14 A14 hH14 ht14
   replace hF12 := FMb.tr (Dw := False) hF12 ht14
   replace hFi := FMb.tr (Dw := False) hFi ht14
   replace hr := Tt hr ht14; replace hB := Bx hB ht14; replace hA := ht14.new
   replace hEl := fun j2 r2 p2 h1 h2 => El.tr (hEl j2 r2 p2 h1 h2) ht14
   refine V_storeC (Dw := False) (off := 0) (ds := [.string t, .slice none 0 0]) hH14 (i := 0) rfl sizeOf83 rfl (Nat.le_of_ble_eq_true rfl) (by exact (List.forall_mem_cons.2 ⟨rfl, (List.forall_mem_cons.2 ⟨rfl, (fun _ h => nomatch h)⟩)⟩)) rfl hB hA rfl rfl ?_
   intro w15 hH15 ht15
   replace hF12 := FMb.tr (Dw := False) hF12 ht15
   replace hFi := FMb.tr (Dw := False) hFi ht15
   replace hr := Tt hr ht15; replace hB := Bx hB ht15; replace hA := ht15.new
   replace hEl := fun j2 r2 p2 h1 h2 => El.tr (hEl j2 r2 p2 h1 h2) ht15
   replace hH : Hp w.heap.size A14 w15 (o_86 (.slice none 0 0) [] :: obC b_t [.string t, .slice none 0 0] 83 :: o_83 v3 s :: obC b_m [.map (some mb)] 178 :: o_3 v2 sizes :: o_3 v1 ids :: obC b_x [v1, v2, v3] 26 :: obC b_r [.slice none 0 0, .slice none 0 0, .slice none 0 0] 26 :: []) := Hp.addNil (α := know_Posting) (e := 86) hH15
   clear hH12 hH14 hH15
   refine To ?_
   refine C_seq (Sr (Ld (Hp.cell (j := 0) hH (i := 3) rfl rfl) isAgg178 (Mm (Vy (Y_lookupF (zz := (none : Option MRf)) hF12 underlying178 underlying9 zeroValue179 rfl rfl rfl) ?_))))
   rw [hg]
   have hFi2 := hFi
   obtain ⟨gA, gl, gn, es2, clk2, gq, ge, gb, gd⟩ := hFi
   refine V_rangeF (Dw := False) (mb := rf.b) hH gq rfl hB hA rfl underlying179 ?_
   intro rb2 w16 A16 hH16 ht16
   replace hF12 := FMb.tr (Dw := False) hF12 ht16
   replace hFi2 := FMb.tr (Dw := False) hFi2 ht16
   replace hr := Tt hr ht16; replace hB := Bx hB ht16; replace hA := ht16.new
   replace hEl := fun j2 r2 p2 h1 h2 => El.tr (hEl j2 r2 p2 h1 h2) ht16
   have gq16 : w16.heap[rf.b]? = some (.map es2 clk2) := by
    rw [(ht16.ex.block rf.b gl gA).2]
    exact gq
   have hes2 : es2.size = m.length := by
    have := congrArg List.length ge
    simp [moE, hql] at this
    omega
   refine To ?_
   refine C_cutG (ι := (List MapEntry × Value × (Nat → Prop))) (fun ⟨vis2, vp, A'⟩ => [(2, Pt b_r), (3, Pt b_x), (4, Pt b_m), (18, Pt b_t), (95, vs), (96, Ii (q.length : Int)), (97, Ii (k : Int))]) (fun ⟨vis2, vp, A'⟩ => fun w' => (vis2.map (·.born)).Perm (es2.toList.map (·.born)) ∧ (∀ x ∈ vis2, x ∈ es2.toList) ∧ (∃ pl : List know_Posting, pl.length = vis2.length ∧ (∀ (i : Nat) (x : MapEntry) (p : know_Posting), vis2[i]? = some x → pl[i]? = some p → ∃ kk : Int, x.key = Value.int .i64 kk ∧ (kk, p) ∈ m) ∧ Hp w.heap.size A' w' (o_86 vp pl :: obC b_t [.string t, vp] 83 :: o_83 v3 s :: obC b_m [.map (some mb)] 178 :: o_3 v2 sizes :: o_3 v1 ids :: obC b_x [v1, v2, v3] 26 :: obC b_r [.slice none 0 0, .slice none 0 0, .slice none 0 0] 26 :: [])) ∧ Tr False w.heap.size A16 w16 A' w') ?_ ?_
   ·refine C_block ?_
    refine C_loop (fun mm a w' => ∃ (vis2 : List MapEntry) (vp : Value) (pl : List know_Posting) (seen : Array Nat) (c0 : Nat) (A' : Nat → Prop), mm = (leftOf es2 seen).size ∧ clk2 ≤ c0 ∧ seen.toList = vis2.map (·.born) ∧ (∀ x ∈ vis2, x ∈ es2.toList) ∧ (vis2.map (·.born)).Nodup ∧ pl.length = vis2.length ∧ (∀ (i : Nat) (x : MapEntry) (p : know_Posting), vis2[i]? = some x → pl[i]? = some p → ∃ kk : Int, x.key = Value.int .i64 kk ∧ (kk, p) ∈ m) ∧ Has ⟨130, [], none⟩ a [(2, Pt b_r), (3, Pt b_x), (4, Pt b_m), (18, Pt b_t), (95, vs), (96, Ii (q.length : Int)), (97, Ii (k : Int)), (106, Pt rb2)] ∧ Hp w.heap.size A' w' (obO rb2 (.mapIter (some rf.b) clk2 seen c0) :: o_86 vp pl :: obC b_t [.string t, vp] 83 :: o_83 v3 s :: obC b_m [.map (some mb)] 178 :: o_3 v2 sizes :: o_3 v1 ids :: obC b_x [v1, v2, v3] 26 :: obC b_r [.slice none 0 0, .slice none 0 0, .slice none 0 0] 26 :: []) ∧ Tr False w.heap.size A16 w16 A' w') _ (fun a ha => ⟨[], .slice none 0 0, [], #[], clk2, A16, rfl, Nat.le_refl _, rfl, (fun _ h => nomatch h), List.nodup_nil, rfl, (fun i x p h => by simp at h), ha.sb, hH16, Tr.refl (Dw := False) hA⟩) ?_
    rintro mm a w17 ⟨vis2, vp, pl, seen, c0, A17, rfl, hc0, hseen, hvis2, hvn, hpl, hpm, ha17, hH17, hr3⟩
    replace hB := Bx hB hr3; replace hA := hr3.new
    have hF17 := FMb.tr (Dw := False) hFi2 hr3
    have gq17 : w17.heap[rf.b]? = some (.map es2 clk2) := by
     rw [(hr3.ex.block rf.b hFi2.2.1 hFi2.1).2]
     exact gq16
    refine C_of ?_ ha17
    refine Sr ?_
    refine V_nextF (Dw := False) hH17 gq17 (j := 0) rfl rfl gb hc0 hB hA rfl ?_ ?_
    ·intro h0
     refine Vy (Y_extract rfl rfl) (To ?_)
     refine C_seq ?_
     refine C_false rfl ?_
     refine C_exit (fun a ha => ?_)
     exact ⟨(vis2, vp, A17), ha.sb, left_done hseen hvis2 hvn gd h0, hvis2, ⟨pl, hpl, hpm, Hp.drop hH17 (i := 0) rfl⟩, hr3⟩
    intro en w18 hen hH18 ht18
    have hem := mem_left hen
    have gq18 : w18.heap[rf.b]? = some (.map es2 clk2) := by
     rw [(ht18.ex.block rf.b hF17.2.1 hF17.1).2]
     exact gq17
    have hF18 := FMb.tr (Dw := False) hF17 ht18
    have hr30 := hr3
    replace hr3 := Tt hr3 ht18; replace hB := Bx hB ht18; replace hA := ht18.new
    obtain ⟨i2, hi2⟩ := List.mem_iff_getElem?.1 hem.1
    obtain ⟨⟨kk, oo⟩, hpk, hkeyp, hvalp⟩ := sm_at ge hi2
    obtain ⟨r2, p2, hr2, hp2, rfl⟩ := moE_at hql hpk
    have hpo := El.tr (hEl i2 r2 (kk, p2) hr2 hp2) hr3
    have hkeyp2 : en.key = Ii kk := hkeyp
    have hvalp2 : en.val = .pointer (some ⟨r2.b, 0, none⟩) := hvalp
    replace hH : Hp _ _ _ (obO rb2 (.mapIter (some rf.b) clk2 (seen.push en.born) clk2) :: o_86 vp pl :: obC b_t [.string t, vp] 83 :: o_83 v3 s :: obC b_m [.map (some mb)] 178 :: o_3 v2 sizes :: o_3 v1 ids :: obC b_x [v1, v2, v3] 26 :: obC b_r [.slice none 0 0, .slice none 0 0, .slice none 0 0] 26 :: []) := hH18
    refine Vy (Y_extract rfl rfl) (To ?_)
    refine C_seq ?_
    refine C_true rfl ?_
    refine Sk ?_
    refine C_block (Sr (Vy (Y_entryF (e := en) hH gq18 (j := 0) rfl rfl hem.1 gd) ?_))
    rw [hvalp2]
    refine Vy (Y_extract rfl rfl) (As (To ?_))
    refine C_region_ch (Dw := False) A17 9 [(1, 0), (0, 1), (1, 2), (1, 3), (1, 4), (2, 5), (4, 6), (1, 7), (4, 8)] Tryz_mixed (by kernel_rfl) (fun w19 hk19 => ?_)
    have ht19 := Kp.tr hk19 hA hB; replace hH := Hp.kp hH hk19; replace hpo := El.tr hpo ht19; replace hr3 := Tt hr3 ht19; replace hB := Bx hB ht19; replace hA := ht19.new
    refine CH_q2 rfl (Qv (fun w' hw' => Y_fieldAddrC (off2 := 1) underlying83 rfl sizeOf81 (by decide) rfl rfl) (VQ_CH (CH_q1 rfl ?_)))
    refine VQ_y (fun w' hw' => Y_load ((World.cell?_of_block (hw'.block _ (World.block_lt_of_cell? _ _ (Hp.cell (j := 1) hH (i := 2) rfl rfl)))).trans (Hp.cell (j := 1) hH (i := 2) rfl rfl)) isAgg81 rfl) rfl rfl rfl ?_
    refine VQ_CH (CH_q2 rfl (Qm (VQ_CH (CH_q2 rfl (Qn (VQ_CH (CH_q2 rfl ?_)))))))
    obtain ⟨vt, vb, hat, h_t, h_b⟩ := El_know_Posting hpo
    refine Qv (fun w' hw' => Y_loadA (At.same hat (hw'.2 _ hpo.2.1 hpo.1)) isAgg86 sizeOf86 rfl) (VQ_CH ?_)
    refine CH_l1 (k := 0) rfl ?_
    refine V_buildSlice (Dw := False) (cells := #[Ii p2.id_, vt, vb]) (l := ([p2] : List know_Posting)) (len := 1) underlying81 sizeOf86 zeroValue86 rfl (by obtain ⟨a89, c90, e91, _⟩ := Sl.form h_t; subst e91; obtain ⟨a92, c93, e94, _⟩ := Sl.form h_b; subst e94; kernel_rfl) (show (1 * 3 : Nat) ≠ 0 by decide) (show (1 * 3 : Nat) ≤ 2 ^ 24 by decide) hA ⟨[Ii p2.id_, vt, vb], _, rfl, ⟨[Ii p2.id_], _, rfl, rfl, ⟨[vt], _, rfl, ⟨_, rfl, h_t⟩, ⟨_, rfl, h_b⟩⟩⟩, rfl⟩ rfl rfl ?_
    intro v20 w20 hk20 h20
    have ht20 := Kp.tr hk20 hA hB; replace hH := Hp.kp hH hk20; replace hr3 := Tt hr3 ht20; replace hB := Bx hB ht20; replace hA := ht20.new
    refine V_CH (hk20) ?_
    refine CH_l1 (k := 2) rfl ?_
    have hlen : (vis2 ++ [en]).length ≤ m.length := by
     have hn2 : ((vis2 ++ [en]).map (·.born)).Nodup := by
      rw [List.map_append, List.nodup_append]
      refine ⟨hvn, by simp, fun a ha b hb => ?_⟩
      simp at hb
      subst hb
      intro e
      rw [← hseen] at ha
      have h5 := hem.2
      simp at h5
      exact h5 (by rw [← e]; simpa using ha)
     have h6 : ∀ x ∈ (vis2 ++ [en]).map (·.born), x ∈ es2.toList.map (·.born) := fun x hx => by
      obtain ⟨y, hy, rfl⟩ := List.mem_map.1 hx
      rcases List.mem_append.1 hy with h7 | h7
      ·exact List.mem_map_of_mem (hvis2 y h7)
      rw [List.mem_singleton] at h7
      subst h7
      exact List.mem_map_of_mem hem.1
     have h8 := nodup_le hn2 h6
     simp at h8
     simp
     omega
    refine V_appendH (Dw := False) (e := 86) (v := vp) (l := pl) (r := pl ++ [p2]) (ti := t86) (bytes := 56) (lim := 2513169434916) hH (i := 1) rfl h20 (by unfold appendL; rw [if_pos]; simp at hlen ⊢; omega) underlying81 Tryz_info86 rfl rfl rfl rfl (by decide) (by decide) (by decide) hB hA rfl rfl rfl ?_
    intro v21 w21 A21 hH21 ht21
    replace hr3 := Tt hr3 ht21; replace hB := Bx hB ht21; replace hA := ht21.new
    replace hH : Hp _ _ _ (obO rb2 (.mapIter (some rf.b) clk2 (seen.push en.born) clk2) :: o_86 v21 (pl ++ [p2]) :: obC b_t [.string t, vp] 83 :: o_83 v3 s :: obC b_m [.map (some mb)] 178 :: o_3 v2 sizes :: o_3 v1 ids :: obC b_x [v1, v2, v3] 26 :: obC b_r [.slice none 0 0, .slice none 0 0, .slice none 0 0] 26 :: []) := hH21
    refine V_CHw ?_
    refine CH_q2 rfl (Qv (fun w' hw' => Y_fieldAddrC (off2 := 1) underlying83 rfl sizeOf81 (by decide) rfl rfl) (VQ_CH ?_))
    refine CH_l1 (k := 2) rfl ?_
    have one21 : v21.oneCell' = true := by obtain ⟨_, _, e, _⟩ := Hp.form hH (i := 1) rfl; rw [e]; rfl
    refine V_storeC (Dw := False) (off := 1) (ds := [.string t, v21]) hH (i := 2) rfl sizeOf81 (cells_of_one one21) (Nat.le_of_ble_eq_true rfl) (cells_all_one one21) (by rw [Value.cells_one one21]; rfl) hB hA rfl rfl ?_
    intro w22 hH22 ht22
    replace hr3 := Tt hr3 ht22
    refine V_CHw ?_
    refine CH_tail ?_
    show V _ _ _ _ [] _ _
    refine V_end (fun a ha => ?_)
    refine ⟨_, left_shrinks es2 seen en hen, vis2 ++ [en], v21, pl ++ [p2], seen.push en.born, clk2, A21, rfl, Nat.le_refl _, by simp [hseen], ?_, ?_, by simp [hpl], ?_, ha.sb, hH22, hr3⟩
    ·intro x hx
     rcases List.mem_append.1 hx with h7 | h7
     ·exact hvis2 x h7
     rw [List.mem_singleton] at h7
     subst h7
     exact hem.1
    ·rw [List.map_append, List.nodup_append]
     refine ⟨hvn, by simp, fun a ha b hb => ?_⟩
     simp at hb
     subst hb
     intro e
     rw [← hseen] at ha
     have h5 := hem.2
     simp at h5
     exact h5 (by rw [← e]; simpa using ha)
    intro i x p h1 h2
    rcases Nat.lt_or_ge i vis2.length with h3 | h3
    ·rw [List.getElem?_append_left h3] at h1
     rw [List.getElem?_append_left (by omega)] at h2
     exact hpm i x p h1 h2
    rw [List.getElem?_append_right h3] at h1
    rw [List.getElem?_append_right (by omega), hpl] at h2
    cases hi3 : i - vis2.length with
    | zero =>
     rw [hi3] at h1 h2
     simp at h1 h2
     subst h1
     subst h2
     exact ⟨kk, hkeyp2, List.mem_of_getElem? hp2⟩
    | succ i3 => rw [hi3] at h1; simp at h1
   rintro ⟨vis2, vp, A17⟩ w17 ⟨hperm2, hvis2, ⟨pl, hpl, hpm, hH17⟩, ht17⟩ a ha17
   have hpp : pl.Perm (m.map (·.2)) := by
    have h1 : vis2.Perm es2.toList := perm_born gd hvis2 hperm2
    exact perm_posts (κ := Int) (enc := Value.int .i64) (fun a b h => (Value.int.inj h).2) hpl hpm gn (moE_keys hql) (by
     refine (h1.map (·.key)).trans ?_
     have h3 : es2.toList.map (·.key) = ((moE m qs).map encE).map (·.1) := by rw [← ge, List.map_map]; rfl
     rw [h3, List.map_map]
     have h4 : (moE m qs).map (Prod.fst ∘ encE) = ((moE m qs).map (·.1)).map (Value.int .i64) := by rw [List.map_map]; rfl
     rw [h4, moE_keys hql])
   replace hr := Tt hr ht17; replace hB := Bx hB ht17; replace hA := ht17.new
   replace hH : Hp _ _ _ (o_86 vp pl :: obC b_t [.string t, vp] 83 :: o_83 v3 s :: obC b_m [.map (some mb)] 178 :: o_3 v2 sizes :: o_3 v1 ids :: obC b_x [v1, v2, v3] 26 :: obC b_r [.slice none 0 0, .slice none 0 0, .slice none 0 0] 26 :: []) := hH17
   refine C_at (n := ⟨130, [], none⟩) (fun _ _ => rfl) ?_ ha17
   refine Sr (Vy (Y_fieldAddrC (off2 := 1) underlying83 rfl sizeOf81 (by decide) rfl rfl) (Ld (Hp.cell (j := 1) hH (i := 1) rfl rfl) isAgg81 ?_))
   obtain ⟨ls, hls, hx⟩ := Bs hx
   rw [← sortFunc_perm hpp] at hls
   refine V_call call57 rfl rfl rfl rfl (Tryz_sf57 (Dw := False) call83 (fun w18 ht18 h18 p1 q1 c1 c2 c3 h1 h2 h3 => by obtain ⟨v318, v320, rfl, h319, h321⟩ := Rep_know_Posting h1; obtain ⟨v325, v327, rfl, h326, h328⟩ := Rep_know_Posting h2; exact (portref2_indexOf_2_c (Dw := True) w18 h18 p1 v318 h319 v320 h321 q1 v325 h326 v327 h328 h3).mono fun _ _ h => ⟨h.1, h.2⟩) hH (i := 0) rfl hB hA hls) ?_
   rintro _ w18 ⟨rfl, hH18, ht18⟩
   replace hr := Tt hr ht18; replace hB := Bx hB ht18; replace hA := ht18.new
   replace hH : Hp _ _ _ (o_86 vp ls :: obC b_t [.string t, vp] 83 :: o_83 v3 s :: obC b_m [.map (some mb)] 178 :: o_3 v2 sizes :: o_3 v1 ids :: obC b_x [v1, v2, v3] 26 :: obC b_r [.slice none 0 0, .slice none 0 0, .slice none 0 0] 26 :: []) := hH18
   refine To ?_
   refine C_region (Vy (Y_fieldAddrC (off2 := 2) underlying26 rfl sizeOf24 (by decide) rfl rfl) (Ld (Hp.cell (j := 2) hH (i := 6) rfl rfl) isAgg24 (Vy (Y_loadA (Hp.part (off := 0) (n := 2) (ds := [.string t, vp]) hH (i := 1) rfl rfl) isAgg83 sizeOf83 rfl) ?_)))
   obtain ⟨A19, ht19, h_p, hH19⟩ := Hp.freeze (Dw := False) (α := know_Posting) (v := vp) (l := ls) hH (i := 0) rfl hA
   replace hr := Tt hr ht19; replace hA := ht19.new
   replace hH : Hp _ _ _ (obC b_t [.string t, vp] 83 :: o_83 v3 s :: obC b_m [.map (some mb)] 178 :: o_3 v2 sizes :: o_3 v1 ids :: obC b_x [v1, v2, v3] 26 :: obC b_r [.slice none 0 0, .slice none 0 0, .slice none 0 0] 26 :: []) := hH19
   refine V_buildSlice (Dw := False) (cells := #[.string t, vp]) (l := ([(⟨t, ls⟩ : know_Term)] : List know_Term)) (len := 1) underlying24 sizeOf83 zeroValue83 rfl (by obtain ⟨a339, c340, e341, _⟩ := Sl.form h_p; subst e341; kernel_rfl) (show (1 * 2 : Nat) ≠ 0 by decide) (show (1 * 2 : Nat) ≤ 2 ^ 24 by decide) hA ⟨[.string t, vp], _, rfl, ⟨[.string t], _, rfl, rfl, ⟨_, rfl, h_p⟩⟩, rfl⟩ rfl rfl ?_
   intro v20 w20 hk20 h20
   have ht20 := Kp.tr hk20 hA hB; replace hH := Hp.kp hH hk20; replace hr := Tt hr ht20; replace hB := Bx hB ht20; replace hA := ht20.new
   obtain ⟨s2, hs2, hx⟩ := Bs hx
   refine V_appendH (Dw := False) (e := 83) (v := v3) (l := s) (ti := t83) (bytes := 40) (lim := 3518437208883) hH (i := 1) rfl h20 hs2 underlying24 Tryz_info83 rfl rfl rfl rfl (by decide) (by decide) (by decide) hB hA rfl rfl rfl ?_
   intro v21 w21 A21 hH21 ht21
   replace hr := Tt hr ht21; replace hB := Bx hB ht21; replace hA := ht21.new
   replace hH : Hp _ _ _ (obC b_t [.string t, vp] 83 :: o_83 v21 s2 :: obC b_m [.map (some mb)] 178 :: o_3 v2 sizes :: o_3 v1 ids :: obC b_x [v1, v2, v3] 26 :: obC b_r [.slice none 0 0, .slice none 0 0, .slice none 0 0] 26 :: []) := hH21
   refine Vy (Y_fieldAddrC (off2 := 2) underlying26 rfl sizeOf24 (by decide) rfl rfl) ?_
   have one21 : v21.oneCell' = true := by obtain ⟨_, _, e, _⟩ := Hp.form hH (i := 1) rfl; rw [e]; rfl
   refine V_storeC (Dw := False) (off := 2) (ds := [v1, v2, v21]) hH (i := 5) rfl sizeOf24 (cells_of_one one21) (Nat.le_of_ble_eq_true rfl) (cells_all_one one21) (by rw [Value.cells_one one21]; rfl) hB hA rfl rfl ?_
   intro w22 hH22 ht22
   replace hr := Tt hr ht22
   replace hH : Hp w.heap.size A21 w22 (o_83 v21 s2 :: obC b_m [.map (some mb)] 178 :: o_3 v2 sizes :: o_3 v1 ids :: obC b_x [v1, v2, v21] 26 :: obC b_r [.slice none 0 0, .slice none 0 0, .slice none 0 0] 26 :: []) := Hp.drop hH22 (i := 0) rfl
   refine To ?_
   refine C_region (Vy (Y_addI rfl rfl) (Mm ?_))
   obtain rfl := Oi hx
   refine V_end (fun a ha => ?_)
   exact ⟨s2, hlt, hnx, ⟨(v21, A21), ha.sub ⟨rfl, rfl, rfl, rfl, rfl, Ws hlt hnq, trivial⟩, hH, hr⟩⟩
  refine C_exit (fun a ha => ?_)
  exact ⟨(s, v3, A12), ha.sb, ⟨(hfin (eq_of_dec hle hc)).symm, hH, hr⟩⟩
 rintro ⟨s, v3, A12⟩ w12 ⟨rfl, hH12, ht12⟩ a ha12
 rw [Lp.andThen_fin] at hm
 obtain rfl := Oi hm
 replace hK := Tt hK ht12; replace hB := Bx hB ht12; replace hA := ht12.new
 replace hH : Hp _ _ _ (o_83 v3 s :: obC b_m [.map (some mb)] 178 :: o_3 v2 sizes :: o_3 v1 ids :: obC b_x [v1, v2, v3] 26 :: obC b_r [.slice none 0 0, .slice none 0 0, .slice none 0 0] 26 :: []) := hH12
 refine C_at (n := ⟨130, [], none⟩) (fun _ _ => rfl) ?_ ha12
 refine Sr (Vy (Y_loadA (Hp.part (off := 0) (n := 3) (ds := [v1, v2, v3]) hH (i := 4) rfl rfl) isAgg26 sizeOf26 rfl) ?_)
 obtain ⟨A13, ht13, h_1, hH13⟩ := Hp.freeze (Dw := False) (α := Int) (v := v1) (l := ids) hH (i := 3) rfl hA
 replace hK := Tt hK ht13; replace hA := ht13.new
 obtain ⟨A14, ht14, h_2, hH14⟩ := Hp.freeze (Dw := False) (α := Int) (v := v2) (l := sizes) hH13 (i := 2) rfl hA
 replace hK := Tt hK ht14; replace hA := ht14.new; replace h_1 := Sl.tr h_1 ht14
 obtain ⟨A15, ht15, h_3, hH15⟩ := Hp.freeze (Dw := False) (α := know_Term) (v := v3) (l := s) hH14 (i := 0) rfl hA
 replace hK := Tt hK ht15; replace hA := ht15.new; replace h_1 := Sl.tr h_1 ht15; replace h_2 := Sl.tr h_2 ht15
 replace hH : Hp _ _ _ (obC b_m [.map (some mb)] 178 :: obC b_x [v1, v2, v3] 26 :: obC b_r [.slice none 0 0, .slice none 0 0, .slice none 0 0] 26 :: []) := hH15
 have one1 : v1.oneCell' = true := by obtain ⟨_, _, e, _⟩ := Sl.form h_1; rw [e]; rfl
 have one2 : v2.oneCell' = true := by obtain ⟨_, _, e, _⟩ := Sl.form h_2; rw [e]; rfl
 have one3 : v3.oneCell' = true := by obtain ⟨_, _, e, _⟩ := Sl.form h_3; rw [e]; rfl
 refine V_storeC (Dw := False) (off := 0) (ds := [v1, v2, v3]) hH (i := 2) rfl sizeOf26 rfl (Nat.le_of_ble_eq_true rfl) (by exact (List.forall_mem_cons.2 ⟨one1, (List.forall_mem_cons.2 ⟨one2, (List.forall_mem_cons.2 ⟨one3, (fun _ h => nomatch h)⟩)⟩)⟩)) rfl hB hA rfl rfl ?_
 intro w16 hH16 ht16
 replace h_1 := Sl.tr h_1 ht16; replace h_2 := Sl.tr h_2 ht16; replace h_3 := Sl.tr h_3 ht16; replace hK := Tt hK ht16
 replace hH : Hp _ _ _ (obC b_m [.map (some mb)] 178 :: obC b_x [v1, v2, v3] 26 :: obC b_r [v1, v2, v3] 26 :: []) := hH16
 refine To ?_
 refine C_ret ?_
 try simp only [↓ib, ↓th]
 exact retQ rfl (Res.l1 results17 (RL.cell rfl (loadVar_agg (Hp.part (off := 0) (n := 3) (ds := [v1, v2, v3]) hH (i := 2) rfl rfl) isAgg26 sizeOf26))) ⟨v1, v2, v3, rfl, (Sl.out (Dw := False) h_1 hA0 hK), (Sl.out (Dw := False) h_2 hA0 hK), (Sl.out (Dw := False) h_3 hA0 hK), hK.kp⟩
theorem slices_IndexFunc_Lknow_Term_know_Term_c (w : World) {A : Nat → Prop} (hA : ∀ b, w.heap.size ≤ b → A b) (s : (List know_Term)) (v_s : Value) (h_s : Sl A w v_s s) (f : know_Term → Option Bool) (f_f : FuncId) (f_a f_c : Array Value) (f_call : ∀ (args : Array Value) (w : World), (callFunc f_f args).run prog w = .ok (.enter f_f args) w) (f_spec : ∀ (w1 : World) (A1 : Nat → Prop), Tr Dw w.heap.size A w A1 w1 → (∀ b, w1.heap.size ≤ b → A1 b) → ∀ (y0 : know_Term) (v1 : Value) (h2 : Sl A1 w1 v1 y0.list_) (r : Bool), f y0 = some r → Ret prog f_f (f_a ++ #[.agg #[.string y0.word, v1]] ++ f_c) w1 fun v w' => v = .bool r ∧ Kp Dw w1 w') {r : Int} (hm : slices_IndexFunc_Lknow_Term_know_Term s f = some r) : Ret prog 54 #[v_s, .func (.func f_f) f_a f_c] w fun v w' => v = Ii r ∧ Kp Dw w w' := by
 unfold slices_IndexFunc_Lknow_Term_know_Term at hm
 refine enter func54 rfl ntmps54 rfl ?_
 have hA0 := hA
 obtain ⟨hB, hK, hH⟩ := St (Dw := Dw) hA
 refine Sr (As (To ?_))
 refine C_seq (Sr (Mm (Vy (Y_lenSl h_s rfl underlying24 rfl) (Mm (To ?_)))))
 have hn23 := Sl.le h_s
 obtain ⟨o3, ho3, hm⟩ := Bs hm
 refine C_cutG (ι := (Unit × (Nat → Prop))) (fun ⟨s4, A10⟩ => []) (fun ⟨s4, A10⟩ => fun w' => o3 = .fin s4 ∧ Hp w.heap.size A10 w' ([]) ∧ Tr Dw w.heap.size A w A10 w') ?_ ?_
 ·refine C_block ?_
  refine C_range ho3 (fun k6 _ a w' => ∃ i : (Nat → Prop), Has ⟨19, [], none⟩ a ([(0, v_s), (1, .func (.func f_f) f_a f_c), (7, Ii (s.length : Int)), (8, Ii (k6 : Int))]) ∧ Hp w.heap.size i w' ([]) ∧ Tr Dw w.heap.size A w i w') (fun a ha => ⟨A, ha.sb, ⟨hH, Tr.refl (Dw := Dw) hA⟩⟩) ?_
  rintro K k6 _ a w13 ⟨A14, ha39, hH15, hr5⟩ hle19 K22 h21
  refine C_of ?_ ha39
  replace h_s := Sl.tr h_s hr5; replace hK := Tt hK hr5; replace hB := Bx hB hr5; replace hA := hr5.new; replace hH := hH15
  refine Sr (Vy (Y_lss rfl rfl) (To ?_))
  refine C_seq ?_
  refine Cc (fun hc24 => ?_) fun hc24 => ?_
  ·have hlt20 := lt_of_dec hc24
   obtain ⟨x16, h17, h18⟩ := K22 hlt20
   refine Sk ?_
   refine C_seq (C_block (Sr (Mm (As (To ?_)))))
   refine Sr (Mm (Mm (Mm ?_)))
   obtain ⟨x25, hx25, h17⟩ := Bs h17
   refine V_indexAddr h_s hx25 underlying24 sizeOf83 rfl rfl rfl ?_
   intro b26 o27 h28
   obtain ⟨v29, h31, h30⟩ := El_know_Term h28
   refine Vy (Y_loadA h31 isAgg83 sizeOf83 rfl) ?_
   obtain ⟨x32, hx32, h17⟩ := Bs h17
   refine Vc f_call (f_spec w13 _ hK hA x25 v29 h30 _ hx32) ?_
   rintro _ w33 ⟨rfl, hk34⟩
   have ht35 := Kp.tr hk34 hA hB; replace hH := Hp.kp hH hk34; replace hK := Tt hK ht35; replace hr5 := Tt hr5 ht35
   refine To ?_
   refine Cc (fun hc36 => ?_) fun hc36 => ?_
   ·rw [if_pos hc36] at h17
    refine Sr (Mm (As (To ?_)))
    obtain rfl := Oi h17
    obtain rfl := (h18 : Lp.rt _ = _)
    rw [Lp.andThen_rt] at hm
    obtain rfl := Oi hm
    refine Rt (Res.one results54 rfl) ?_
    exact ⟨rfl, hK.kp⟩
   rw [if_neg (nt hc36)] at h17
   refine Sk ?_
   refine C_region (Vy (Y_addI rfl rfl) (Mm ?_))
   obtain rfl := Oi h17
   refine V_end (fun a ha37 => ?_)
   exact ⟨(), hlt20, h18, ⟨A14, ha37.sub ⟨rfl, rfl, rfl, Ws hlt20 hn23, trivial⟩, ⟨hH, hr5⟩⟩⟩
  refine C_exit (fun a ha38 => ?_)
  exact ⟨((), A14), ha38.sub trivial, ⟨(h21 (eq_of_dec hle19 hc24)).symm, hH, hr5⟩⟩
 rintro ⟨s4, A10⟩ w7 ⟨rfl, hH11, hk8⟩ a ha9
 rw [Lp.andThen_fin] at hm
 replace hK := Tr.trans hK hk8; replace hA := hk8.new; replace hH := hH11
 refine C_at (n := ⟨19, [], none⟩) (fun _ _ => rfl) ?_ ha9
 refine Sr (As (To ?_))
 obtain rfl := Oi hm
 refine Rt (Res.one results54 rfl) ?_
 exact ⟨rfl, hK.kp⟩
theorem portref2_PutOf_1_c (w : World) {A : Nat → Prop} (hA : ∀ b, w.heap.size ≤ b → A b) (y : know_Term) (v_y : Value) (h_y : Sl A w v_y y.list_) (p1_ : know_Term) (b_p1_ : Nat) (h_p1_ : El A w b_p1_ 0 p1_) {r : Bool} (hm : portref2_PutOf_1 y p1_ = some r) : Ret prog 55 #[.agg #[.string y.word, v_y], Pt b_p1_] w fun v w' => v = .bool r ∧ Kp Dw w w' := by
 unfold portref2_PutOf_1 at hm
 refine enter func55 rfl ntmps55 rfl ?_
 have hA0 := hA
 obtain ⟨hB, hK, hH⟩ := St (Dw := Dw) hA
 refine Sr ?_
 refine V_box rfl rfl ?_
 intro b3 w4 h5
 have hk7 := h5.kp (Dw := Dw)
 have h6 : El (α := know_Term) A w4 b3 0 y := h5.el hA ⟨[.string y.word], _, rfl, rfl, ⟨_, rfl, h_y⟩⟩
 have ht8 := Kp.tr hk7 hA hB; replace h_p1_ := El.tr h_p1_ ht8; replace hK := Tt hK ht8
 refine As (To ?_)
 refine Sr ?_
 have h9 := El_know_Term_0 h6
 refine Fa underlying83 rfl sizeOf9 (Ld (El.str h9) isAgg9 ?_)
 have h10 := El_know_Term_0 h_p1_
 refine Fa underlying83 rfl sizeOf9 (Ld (El.str h10) isAgg9 (Vy (Y_seql rfl rfl) (As (To ?_))))
 obtain rfl := Oi hm
 refine Rt (Res.one results55 rfl) ?_
 exact ⟨rfl, hK.kp⟩
theorem portref2_PutOf_2_c (w : World) {A : Nat → Prop} (hA : ∀ b, w.heap.size ≤ b → A b) (a_ : know_Posting) (v_a_0 : Value) (h_a_0 : Sl A w v_a_0 a_.title) (v_a_1 : Value) (h_a_1 : Sl A w v_a_1 a_.body) (b : know_Posting) (v_b0 : Value) (h_b0 : Sl A w v_b0 b.title) (v_b1 : Value) (h_b1 : Sl A w v_b1 b.body) {r : Int} (hm : portref2_PutOf_2 a_ b = some r) : Ret prog 58 #[.agg #[Ii a_.id_, v_a_0, v_a_1], .agg #[Ii b.id_, v_b0, v_b1]] w fun v w' => v = Ii r ∧ Kp Dw w w' := by
 unfold portref2_PutOf_2 at hm
 refine enter func58 rfl ntmps58 rfl ?_
 have hA0 := hA
 obtain ⟨hB, hK, hH⟩ := St (Dw := Dw) hA
 refine Sr ?_
 refine V_box rfl rfl ?_
 intro b9 w10 h11
 have hk13 := h11.kp (Dw := Dw)
 have h12 : El (α := know_Posting) A w10 b9 0 a_ := h11.el hA ⟨[Ii a_.id_], _, rfl, rfl, ⟨[v_a_0], _, rfl, ⟨_, rfl, h_a_0⟩, ⟨_, rfl, h_a_1⟩⟩⟩
 have ht14 := Kp.tr hk13 hA hB; replace h_b0 := Sl.tr h_b0 ht14; replace h_b1 := Sl.tr h_b1 ht14; replace hK := Tt hK ht14; replace hB := Bx hB ht14; replace hA := ht14.new
 refine V_box rfl rfl ?_
 intro b15 w17 h18
 have hk20 := h18.kp (Dw := Dw)
 have h19 : El (α := know_Posting) A w17 b15 0 b := h18.el hA ⟨[Ii b.id_], _, rfl, rfl, ⟨[v_b0], _, rfl, ⟨_, rfl, h_b0⟩, ⟨_, rfl, h_b1⟩⟩⟩
 have ht21 := Kp.tr hk20 hA hB; replace h12 := El.tr h12 ht21; replace hK := Tt hK ht21
 refine As (To ?_)
 refine Sr ?_
 have h22 := El_know_Posting_0 h12
 refine Fa underlying86 rfl sizeOf3 (Li h22 isAgg3 ?_)
 have h23 := El_know_Posting_0 h19
 refine Fa underlying86 rfl sizeOf3 (Li h23 isAgg3 ?_)
 refine Vc call59 (cmp_Compare_int_c w17 a_.id_ b.id_) ?_
 rintro _ _ ⟨rfl, rfl⟩
 refine As (To ?_)
 obtain rfl := Oi hm
 refine Rt (Res.one results58 rfl) ?_
 exact ⟨rfl, hK.kp⟩
theorem portref2_PutOf_3_c (w : World) {A : Nat → Prop} (hA : ∀ b, w.heap.size ≤ b → A b) (a_ : know_Term) (v_a_ : Value) (h_a_ : Sl A w v_a_ a_.list_) (b : know_Term) (v_b : Value) (h_b : Sl A w v_b b.list_) {r : Int} (hm : portref2_PutOf_3 a_ b = some r) : Ret prog 61 #[.agg #[.string a_.word, v_a_], .agg #[.string b.word, v_b]] w fun v w' => v = Ii r ∧ Kp Dw w w' := by
 unfold portref2_PutOf_3 at hm
 refine enter func61 rfl ntmps61 rfl ?_
 have hA0 := hA
 obtain ⟨hB, hK, hH⟩ := St (Dw := Dw) hA
 refine Sr ?_
 refine V_box rfl rfl ?_
 intro b5 w6 h7
 have hk9 := h7.kp (Dw := Dw)
 have h8 : El (α := know_Term) A w6 b5 0 a_ := h7.el hA ⟨[.string a_.word], _, rfl, rfl, ⟨_, rfl, h_a_⟩⟩
 have ht10 := Kp.tr hk9 hA hB; replace h_b := Sl.tr h_b ht10; replace hK := Tt hK ht10; replace hB := Bx hB ht10; replace hA := ht10.new
 refine V_box rfl rfl ?_
 intro b11 w12 h13
 have hk15 := h13.kp (Dw := Dw)
 have h14 : El (α := know_Term) A w12 b11 0 b := h13.el hA ⟨[.string b.word], _, rfl, rfl, ⟨_, rfl, h_b⟩⟩
 have ht16 := Kp.tr hk15 hA hB; replace h8 := El.tr h8 ht16; replace hK := Tt hK ht16; replace hB := Bx hB ht16; replace hA := ht16.new
 refine As (To ?_)
 refine Sr ?_
 have h17 := El_know_Term_0 h8
 refine Fa underlying83 rfl sizeOf9 (Ld (El.str h17) isAgg9 ?_)
 have h18 := El_know_Term_0 h14
 refine Fa underlying83 rfl sizeOf9 (Ld (El.str h18) isAgg9 ?_)
 obtain ⟨x19, hx19, hm⟩ := Bs hm
 refine Vc call62 (strings_Compare_c (Dw := Dw) w12 hA a_.word b.word hx19) ?_
 rintro _ w20 ⟨rfl, hk21⟩
 have ht22 := Kp.tr hk21 hA hB; replace hK := Tt hK ht22
 refine As (To ?_)
 obtain rfl := Oi hm
 refine Rt (Res.one results61 rfl) ?_
 exact ⟨rfl, hK.kp⟩
def Tryz_sf60_ren : Go.Shelf.Ren := ⟨fun | 6 => 60 | 14 => 95 | 15 => 93 | 20 => 126 | 21 => 127 | 22 => 128 | 23 => 129 | 24 => 130 | 25 => 131 | 26 => 132 | 27 => 133 | 28 => 124 | 29 => 125 | 46 => 167 | 47 => 163 | 48 => 164 | 49 => 168 | 50 => 169 | 57 => 185 | n => n, fun | 0 => 0 | 1 => 1 | 2 => 2 | 3 => 3 | 4 => 4 | 5 => 5 | 6 => 6 | 7 => 7 | 8 => 8 | 9 => 9 | 10 => 10 | 11 => 11 | 12 => 12 | 13 => 13 | 14 => 14 | 15 => 15 | 16 => 16 | 17 => 17 | 18 => 18 | 19 => 19 | 20 => 20 | 21 => 21 | 22 => 24 | 23 => 159 | 24 => 83 | 25 => 161 | 27 => 23 | 29 => 157 | 30 => 252 | 37 => 197 | 38 => 196 | 39 => 191 | 40 => 154 | 42 => 193 | 44 => 222 | 45 => 212 | 46 => 213 | 47 => 223 | 48 => 224 | 49 => 225 | 50 => 150 | 51 => 226 | 52 => 218 | 53 => 219 | 54 => 220 | 55 => 221 | 66 => 253 | 67 => 254 | 68 => 255 | 69 => 259 | 70 => 257 | 71 => 260 | 76 => 268 | 77 => 269 | 78 => 271 | 81 => 239 | 82 => 284 | 83 => 285 | 84 => 286 | 85 => 287 | 86 => 288 | 87 => 289 | 88 => 290 | 89 => 291 | 90 => 292 | 91 => 264 | 92 => 293 | 93 => 294 | 94 => 295 | 95 => 296 | 96 => 272 | n => n, fun n => n⟩
theorem Tryz_sf60_lay : Go.Proofs.SlLaysF0.n6 Tryz.prog Tryz_sf60_ren := {
  mixed := by kernel_rfl,
  f6 := ⟨ "slices.SortFunc[[]porterslodge/know.Term,porterslodge/know.Term]", by kernel_rfl, Tryz.func60.trans (congrArg some (by kernel_rfl))⟩,
  f14 := ⟨ "slices.pdqsortCmpFunc[porterslodge/know.Term]", by kernel_rfl, Tryz.func95.trans (congrArg some (by kernel_rfl))⟩,
  f15 := Tryz.func93.trans (congrArg some (by kernel_rfl)),
  f20 := ⟨ "slices.insertionSortCmpFunc[porterslodge/know.Term]", by kernel_rfl, Tryz.func126.trans (congrArg some (by kernel_rfl))⟩,
  f21 := ⟨ "slices.heapSortCmpFunc[porterslodge/know.Term]", by kernel_rfl, Tryz.func127.trans (congrArg some (by kernel_rfl))⟩,
  f22 := ⟨ "slices.breakPatternsCmpFunc[porterslodge/know.Term]", by kernel_rfl, Tryz.func128.trans (congrArg some (by kernel_rfl))⟩,
  f23 := ⟨ "slices.choosePivotCmpFunc[porterslodge/know.Term]", by kernel_rfl, Tryz.func129.trans (congrArg some (by kernel_rfl))⟩,
  f24 := ⟨ "slices.reverseRangeCmpFunc[porterslodge/know.Term]", by kernel_rfl, Tryz.func130.trans (congrArg some (by kernel_rfl))⟩,
  f25 := ⟨ "slices.partialInsertionSortCmpFunc[porterslodge/know.Term]", by kernel_rfl, Tryz.func131.trans (congrArg some (by kernel_rfl))⟩,
  f26 := ⟨ "slices.partitionEqualCmpFunc[porterslodge/know.Term]", by kernel_rfl, Tryz.func132.trans (congrArg some (by kernel_rfl))⟩,
  f27 := ⟨ "slices.partitionCmpFunc[porterslodge/know.Term]", by kernel_rfl, Tryz.func133.trans (congrArg some (by kernel_rfl))⟩,
  f28 := Tryz.func124.trans (congrArg some (by kernel_rfl)),
  f29 := Tryz.func125.trans (congrArg some (by kernel_rfl)),
  f46 := ⟨ "slices.siftDownCmpFunc[porterslodge/know.Term]", by kernel_rfl, Tryz.func167.trans (congrArg some (by kernel_rfl))⟩,
  f47 := Tryz.func163.trans (congrArg some (by kernel_rfl)),
  f48 := Tryz.func164.trans (congrArg some (by kernel_rfl)),
  f49 := ⟨ "slices.medianAdjacentCmpFunc[porterslodge/know.Term]", by kernel_rfl, Tryz.func168.trans (congrArg some (by kernel_rfl))⟩,
  f50 := ⟨ "slices.medianCmpFunc[porterslodge/know.Term]", by kernel_rfl, Tryz.func169.trans (congrArg some (by kernel_rfl))⟩,
  f57 := ⟨ "slices.order2CmpFunc[porterslodge/know.Term]", by kernel_rfl, Tryz.func185.trans (congrArg some (by kernel_rfl))⟩,
  t0 := Tryz.underlying0,
  a0 := Tryz.isAgg0,
  z0 := Tryz.sizeOf0,
  v0 := Tryz.zeroValue0,
  t3 := Tryz.underlying3,
  a3 := Tryz.isAgg3,
  z3 := Tryz.sizeOf3,
  v3 := Tryz.zeroValue3,
  t4 := Tryz.underlying4,
  a4 := Tryz.isAgg4,
  z4 := Tryz.sizeOf4,
  v4 := Tryz.zeroValue4,
  t5 := Tryz.underlying5,
  a5 := Tryz.isAgg5,
  z5 := Tryz.sizeOf5,
  v5 := Tryz.zeroValue5,
  t9 := Tryz.underlying9,
  a9 := Tryz.isAgg9,
  z9 := Tryz.sizeOf9,
  v9 := Tryz.zeroValue9,
  t22 := Tryz.underlying24,
  a22 := Tryz.isAgg24,
  z22 := Tryz.sizeOf24,
  v22 := Tryz.zeroValue24,
  t25 := Tryz.underlying161,
  a25 := Tryz.isAgg161,
  z25 := Tryz.sizeOf161,
  v25 := Tryz.zeroValue161,
  t39 := Tryz.underlying191,
  a39 := Tryz.isAgg191,
  z39 := Tryz.sizeOf191,
  v39 := Tryz.zeroValue191,
  t45 := Tryz.underlying212,
  a45 := Tryz.isAgg212,
  z45 := Tryz.sizeOf212,
  v45 := Tryz.zeroValue212,
  t46 := Tryz.underlying213,
  a46 := Tryz.isAgg213,
  z46 := Tryz.sizeOf213,
  v46 := Tryz.zeroValue213,
  t50 := Tryz.underlying150,
  a50 := Tryz.isAgg150,
  z50 := Tryz.sizeOf150,
  v50 := Tryz.zeroValue150,
  t53 := Tryz.underlying219,
  a53 := Tryz.isAgg219,
  z53 := Tryz.sizeOf219,
  v53 := Tryz.zeroValue219,
  t55 := Tryz.underlying221,
  a55 := Tryz.isAgg221,
  z55 := Tryz.sizeOf221,
  v55 := Tryz.zeroValue221,
  t66 := Tryz.underlying253,
  a66 := Tryz.isAgg253,
  z66 := Tryz.sizeOf253,
  v66 := Tryz.zeroValue253,
  t70 := Tryz.underlying257,
  a70 := Tryz.isAgg257,
  z70 := Tryz.sizeOf257,
  v70 := Tryz.zeroValue257,
  t76 := Tryz.underlying268,
  a76 := Tryz.isAgg268,
  z76 := Tryz.sizeOf268,
  v76 := Tryz.zeroValue268,
  t77 := Tryz.underlying269,
  a77 := Tryz.isAgg269,
  z77 := Tryz.sizeOf269,
  v77 := Tryz.zeroValue269 }
theorem Tryz_sf60 {cmp : know_Term → know_Term → Option Int} {l r : List know_Term} {g : FuncId} {cb : Array Value} {B : Nat} {A : Nat → Prop} {w : World} {L : List Ob} {i : Nat} {v : Value} (eg : ∀ (args : Array Value) (w : World), (callFunc g args).run Tryz.prog w = .ok (.enter g args) w) (hcl : ∀ (w1 : World), Tr True B A w A w1 → (∀ b, w1.heap.size ≤ b → A b) → ∀ (x y : know_Term) (cx cy : List Value) (c : Int), GoT.rep A w1 cx x → GoT.rep A w1 cy y → cmp x y = some c → Ret Tryz.prog g (#[.agg cx.toArray, .agg cy.toArray] ++ cb) w1 fun v w' => v = .int .i64 c ∧ Kp True w1 w') (hH : Hp B A w L) (hi : L[i]? = some (o_83 v l)) (hB : B ≤ w.heap.size) (hA : ∀ b, w.heap.size ≤ b → A b) (hr : sortFuncL cmp l = some r) : Ret Tryz.prog 60 #[v, .func (.func g) #[] cb] w fun u w' => u = .tuple #[] ∧ Hp B A w' (L.set i (o_83 v r)) ∧ Tr Dw B A w A w' :=
  Hp.sortFuncK (Dw := Dw) (fun p c w => Go.Proofs.AnyF.slices_SortFunc_none Tryz_sf60_lay p c _ w) (fun enc hk hone cf hO blk off cap d w hc hh hb hs => Go.Proofs.AnyQ.slices_SortFunc Tryz_sf60_lay _ Tryz.isAgg83 Tryz.sizeOf83 enc hk hone cf hO g cb blk off cap d w eg hc hh hb hs) hcl hH hi hB hA hr
theorem portref2_PutOf_c (w : World) {A : Nat → Prop} (hA : ∀ b, w.heap.size ≤ b → A b) (hT : Mx prog 0 A w) (x : know_Index) (v_x0 : Value) (h_x0 : Sl A w v_x0 x.ids) (v_x1 : Value) (h_x1 : Sl A w v_x1 x.sizes) (v_x2 : Value) (h_x2 : Sl A w v_x2 x.terms) (v : know_Entry) {r : (know_Index × Int)} (hm : portref2_PutOf x v = some r) : Ret prog 9 #[.agg #[v_x0, v_x1, v_x2], .agg #[Ii v.id_, .string v.title, .string v.body]] w fun v w' => ∃ s0 s1 s2, v = .tuple #[.agg #[s0, s1, s2], Ii r.2] ∧ Sl A w' s0 r.1.ids ∧ Sl A w' s1 r.1.sizes ∧ Sl A w' s2 r.1.terms ∧ Kp False w w' := by
 unfold portref2_PutOf at hm
 refine enter func9 rfl ntmps9 rfl ?_
 have hA0 := hA
 obtain ⟨hB, hK, hH⟩ := St (Dw := False) hA
 refine Sr ?_
 refine V_box rfl rfl ?_
 intro b7 w9 h10
 have hk12 := h10.kp (Dw := False)
 have h11 : El (α := know_Index) A w9 b7 0 x := h10.el hA ⟨[v_x0], _, rfl, ⟨_, rfl, h_x0⟩, ⟨[v_x1], _, rfl, ⟨_, rfl, h_x1⟩, ⟨_, rfl, h_x2⟩⟩⟩
 have ht13 := Kp.tr hk12 hA hB; replace hH := Hp.kp hH hk12; replace hK := Tt hK ht13; replace hB := Bx hB ht13; replace hA := ht13.new
 refine V_box rfl rfl ?_
 intro b14 w15 h16
 have hk18 := h16.kp (Dw := False)
 have h17 : El (α := know_Entry) A w15 b14 0 v := h16.el hA ⟨[Ii v.id_], _, rfl, rfl, ⟨[.string v.title], _, rfl, rfl, rfl⟩⟩
 have ht19 := Kp.tr hk18 hA hB; replace hH := Hp.kp hH hk18; replace h11 := El.tr h11 ht19; replace hK := Tt hK ht19; replace hB := Bx hB ht19; replace hA := ht19.new
 refine V_allocH (Dw := False) (B := w.heap.size) hH zeroValue26 hB hA rfl ?_
 intro b20 w21 A22 hH23 ht24
 replace h11 := El.tr h11 ht24; replace h17 := El.tr h17 ht24; replace hK := Tt hK ht24; replace hB := Bx hB ht24; replace hA := ht24.new
 replace hH : Hp _ _ _ (obC b20 [.slice none 0 0, .slice none 0 0, .slice none 0 0] 26 :: []) := hH23
 refine As (To ?_)
 refine C_seq (Sr ?_)
 obtain ⟨v25, v27, v29, h31, h26, h28, h30⟩ := El_know_Index h11
 refine Vy (Y_loadA h31 isAgg26 sizeOf26 rfl) ?_
 obtain ⟨x32, hx32, hm⟩ := Bs hm
 refine Vc call13 (portref2_IndexFault_c (Dw := False) w21 hA x v25 h26 v27 h28 v29 h30 hx32) ?_
 rintro _ w33 ⟨rfl, hk34⟩
 have ht35 := Kp.tr hk34 hA hB; replace hH := Hp.kp hH hk34; replace h11 := El.tr h11 ht35; replace h17 := El.tr h17 ht35; replace hK := Tt hK ht35; replace hB := Bx hB ht35; replace hA := ht35.new
 refine As (To ?_)
 refine Sr (Mm (Vy (Y_neq rfl rfl) (To ?_)))
 refine Cc (fun hc36 => ?_) fun hc36 => ?_
 ·rw [if_pos hc36] at hm
  refine Sr ?_
  refine Vy (Y_build underlying26 zeroValue26 (Tryz_places26 _ underlying26) rfl (by with_unfolding_all rfl)) (Mm ?_)
  refine V_storeC (Dw := False) (off := 0) (ds := [.slice none 0 0, .slice none 0 0, .slice none 0 0]) hH (i := 0) rfl sizeOf26 rfl (Nat.le_of_ble_eq_true rfl) (by exact (List.forall_mem_cons.2 ⟨rfl, (List.forall_mem_cons.2 ⟨rfl, (List.forall_mem_cons.2 ⟨rfl, (fun _ h => nomatch h)⟩)⟩)⟩)) rfl hB hA rfl rfl ?_
  intro w37 hH38 ht39
  replace hK := Tt hK ht39
  replace hH : Hp _ _ _ (obC b20 [.slice none 0 0, .slice none 0 0, .slice none 0 0] 26 :: []) := hH38
  refine As (To ?_)
  obtain rfl := Oi hm
  refine C_ret ?_
  try simp only [↓ib, ↓th]
  exact retQ rfl (Res.l2 results9 (RL.cell rfl (loadVar_agg (Hp.part (off := 0) (n := 3) (ds := [.slice none 0 0, .slice none 0 0, .slice none 0 0]) hH (i := 0) rfl rfl) isAgg26 sizeOf26)) (RL.tmp rfl)) ⟨.slice none 0 0, .slice none 0 0, .slice none 0 0, rfl, Sl.nil, Sl.nil, Sl.nil, hK.kp⟩
 rw [if_neg (nt hc36)] at hm
 refine Sk ?_
 refine C_seq (Sr ?_)
 have h40 := El_know_Entry_0 h17
 refine Fa underlying33 rfl sizeOf3 (Li h40 isAgg3 (Vy (Y_lss rfl rfl) (Mm ?_)))
 refine V_cut 4 (fun _ : Unit => [(2, Pt b7), (3, Pt b14), (4, Pt b20), (29, .bool ((decide (v.id_ < 1)) || (decide ((3000000 : Int) < v.id_))))]) (fun _ w' => w33 = w') ?_ ?_
 ·simp only [List.take, List.drop]
  rcases Be (decide (v.id_ < 1)) with hc41 | hc41
  ·refine Gm hc41 (Gm hc41 (Gm hc41 (Vy (Y_pick_te rfl hc41 rfl) ?_)))
   exact V_end fun a ha => ⟨(), ha.sub ⟨rfl, rfl, rfl, (by rw [hc41]; rfl), trivial⟩, rfl⟩
  refine Gf hc41 ?_
  have h43 := El_know_Entry_0 h17
  refine Fa underlying33 rfl sizeOf3 (Gf hc41 (Li h43 isAgg3 (Gf hc41 (Vy (Y_gtr rfl rfl) (Vy (Y_pick_fe rfl hc41 rfl) ?_)))))
  exact V_end fun a ha => ⟨(), ha.sub ⟨rfl, rfl, rfl, (by rw [hc41]; rfl), trivial⟩, rfl⟩
 simp only [List.take, List.drop]
 rintro _ _ rfl
 refine To ?_
 refine Cc (fun hc44 => ?_) fun hc44 => ?_
 ·rw [if_pos hc44] at hm
  refine Sr ?_
  refine Vy (Y_build underlying26 zeroValue26 (Tryz_places26 _ underlying26) rfl (by with_unfolding_all rfl)) ?_
  refine V_storeC (Dw := False) (off := 0) (ds := [.slice none 0 0, .slice none 0 0, .slice none 0 0]) hH (i := 0) rfl sizeOf26 rfl (Nat.le_of_ble_eq_true rfl) (by exact (List.forall_mem_cons.2 ⟨rfl, (List.forall_mem_cons.2 ⟨rfl, (List.forall_mem_cons.2 ⟨rfl, (fun _ h => nomatch h)⟩)⟩)⟩)) rfl hB hA rfl rfl ?_
  intro w45 hH46 ht47
  replace hK := Tt hK ht47
  replace hH : Hp _ _ _ (obC b20 [.slice none 0 0, .slice none 0 0, .slice none 0 0] 26 :: []) := hH46
  refine As (To ?_)
  obtain rfl := Oi hm
  refine C_ret ?_
  try simp only [↓ib, ↓th]
  exact retQ rfl (Res.l2 results9 (RL.cell rfl (loadVar_agg (Hp.part (off := 0) (n := 3) (ds := [.slice none 0 0, .slice none 0 0, .slice none 0 0]) hH (i := 0) rfl rfl) isAgg26 sizeOf26)) (RL.tmp rfl)) ⟨.slice none 0 0, .slice none 0 0, .slice none 0 0, rfl, Sl.nil, Sl.nil, Sl.nil, hK.kp⟩
 rw [if_neg (nt hc44)] at hm
 refine Sk ?_
 refine C_seq (Sr ?_)
 obtain ⟨h48, _⟩ := El_know_Entry h17
 refine Vy (Y_loadA h48 isAgg33 sizeOf33 rfl) ?_
 obtain ⟨x49, hx49, hm⟩ := Bs hm
 refine Vc call16 (portref2_entryFault_c w33 hA (Mx.tr (Dw := False) hT hK) v hx49) ?_
 rintro _ w50 ⟨rfl, hk51⟩
 have ht52 := Kp.tr hk51 hA hB; replace hH := Hp.kp hH hk51; replace h11 := El.tr h11 ht52; replace h17 := El.tr h17 ht52; replace hK := Tt hK ht52; replace hB := Bx hB ht52; replace hA := ht52.new
 refine As (To ?_)
 refine Sr (Mm (Vy (Y_neq rfl rfl) (To ?_)))
 refine Cc (fun hc53 => ?_) fun hc53 => ?_
 ·rw [if_pos hc53] at hm
  refine Sr ?_
  refine Vy (Y_build underlying26 zeroValue26 (Tryz_places26 _ underlying26) rfl (by with_unfolding_all rfl)) (Mm ?_)
  refine V_storeC (Dw := False) (off := 0) (ds := [.slice none 0 0, .slice none 0 0, .slice none 0 0]) hH (i := 0) rfl sizeOf26 rfl (Nat.le_of_ble_eq_true rfl) (by exact (List.forall_mem_cons.2 ⟨rfl, (List.forall_mem_cons.2 ⟨rfl, (List.forall_mem_cons.2 ⟨rfl, (fun _ h => nomatch h)⟩)⟩)⟩)) rfl hB hA rfl rfl ?_
  intro w54 hH55 ht56
  replace hK := Tt hK ht56
  replace hH : Hp _ _ _ (obC b20 [.slice none 0 0, .slice none 0 0, .slice none 0 0] 26 :: []) := hH55
  refine As (To ?_)
  obtain rfl := Oi hm
  refine C_ret ?_
  try simp only [↓ib, ↓th]
  exact retQ rfl (Res.l2 results9 (RL.cell rfl (loadVar_agg (Hp.part (off := 0) (n := 3) (ds := [.slice none 0 0, .slice none 0 0, .slice none 0 0]) hH (i := 0) rfl rfl) isAgg26 sizeOf26)) (RL.tmp rfl)) ⟨.slice none 0 0, .slice none 0 0, .slice none 0 0, rfl, Sl.nil, Sl.nil, Sl.nil, hK.kp⟩
 rw [if_neg (nt hc53)] at hm
 refine Sk ?_
 refine C_seq ?_
 obtain ⟨v61, v63, v65, h67, h62, h64, h66⟩ := El_know_Index h11
 obtain ⟨h69, _⟩ := El_know_Entry h17
 obtain ⟨x70, hx70, hm⟩ := Bs hm
 obtain ⟨x86, hx86, hm⟩ := Bs hm
 refine C_region_po (Dw := False) (fun k => A22 k ∧ k < w50.heap.size) 11 [(1, 0), (1, 1), (1, 2), (1, 4)] [(3, 3), (3, 5), (3, 6), (3, 7), (3, 8), (3, 9), (3, 10)] (fun p a w' => ∃ (A' : Nat → Prop) (u40 u42 u43 u8 u9 va vb vc vd ve vf : Value) (ba bb : Nat), Has ⟨117, [], none⟩ a [(3, Pt b14), (4, Pt b20), (37, .agg #[v61, v63, v65]), (39, Ii v.id_), (41, .agg #[Ii v.id_, .string v.title, .string v.body]), (40, u40), (42, u42), (43, u43), (8, u8), (9, u9)] ∧ Tr False w.heap.size A22 w50 A' w' ∧ Hp w.heap.size A' w' ((bif p 8 then [] else [obC bb (bif p 10 then [.slice none 0 0, .slice none 0 0, .slice none 0 0] else [vd, ve, vf]) 26]) ++ ((bif p 7 then [] else [obC ba (bif p 9 then [.slice none 0 0, .slice none 0 0, .slice none 0 0] else [va, vb, vc]) 26]) ++ ((bif p 3 then [] else [o_3 va x70.ids, o_3 vb x70.sizes, o_83 vc x70.terms]) ++ ((obC b20 [.slice none 0 0, .slice none 0 0, .slice none 0 0] 26 :: []))))) ∧ (p 3 = false → u40 = .agg #[va, vb, vc]) ∧ (p 5 = false → Sl A' w' u42 ([v] : List know_Entry)) ∧ (p 6 = false → u43 = .agg #[vd, ve, vf] ∧ Sl A' w' vd x86.ids ∧ Sl A' w' ve x86.sizes ∧ Sl A' w' vf x86.terms) ∧ (p 7 = false → u8 = Pt ba) ∧ (p 8 = false → u9 = Pt bb) ∧ (p 9 = false → p 3 = false ∧ p 7 = false) ∧ (p 10 = false → p 6 = false ∧ p 8 = false)) Tryz_mixed (by kernel_rfl) (fun w57 hk58 hs59 => ?_) ?_ ?_
 ·have ht60 := Kp.tr hk58 hA hB
  replace hH := Hp.kp hH hk58; replace h11 := El.tr h11 ht60; replace h17 := El.tr h17 ht60
  replace h67 := At.kp (Dw := False) h67 hk58 (hs59 ▸ h11.2.1)
  refine CH_q2 rfl (Qv (fun w' hw' => Y_loadA (At.same h67 ((XA.cut hs59 hw').2 _ h11.2.1 h11.1)) isAgg26 sizeOf26 rfl) (VQ_CH (CH_q2 rfl ?_)))
  have h68 := El_know_Entry_0 h17
  refine Qf underlying33 rfl sizeOf3 (VQ_CH (CH_q2 rfl (Ql (fun w' hw' => (El.int (El.keep h68 (XA.ex (XA.cut hs59 hw'))))) isAgg3 (VQ_CH ?_))))
  replace h69 := At.kp (Dw := False) h69 hk58 (hs59 ▸ h17.2.1)
  refine CH_q2 rfl (Qv (fun w' hw' => Y_loadA (At.same h69 ((XA.cut hs59 hw').2 _ h17.2.1 h17.1)) isAgg33 sizeOf33 rfl) (VQ_CH ?_))
  refine CH_state (Dw := False) fun a ha => ?_
  obtain ⟨u40, ha⟩ := Has.slot ha (d := 40) rfl
  obtain ⟨u42, ha⟩ := Has.slot ha (d := 42) rfl
  obtain ⟨u43, ha⟩ := Has.slot ha (d := 43) rfl
  obtain ⟨u8, ha⟩ := Has.slot ha (d := 8) rfl
  obtain ⟨u9, ha⟩ := Has.slot ha (d := 9) rfl
  exact ⟨_, u40, u42, u43, u8, u9, .slice none 0 0, .slice none 0 0, .slice none 0 0, .slice none 0 0, .slice none 0 0, .slice none 0 0, 0, 0, ha.sb, ht60, hH, (fun h => nomatch h), (fun h => nomatch h), (fun h => nomatch h), (fun h => nomatch h), (fun h => nomatch h), (fun h => nomatch h), (fun h => nomatch h)⟩
 ·intro p k i hmem hp hd a w1 ⟨A1, u40, u42, u43, u8, u9, va, vb, vc, vd, ve, vf, ba, bb, ha, ht, hH, f3, f5, f6, f7, f8, g9, g10⟩
  have hB1 := Nat.le_trans hB ht.ex.size
  have hA1 := ht.new
  simp only [List.mem_cons, Prod.mk.injEq, List.not_mem_nil, or_false] at hmem
  rcases hmem with ⟨rfl, rfl⟩ | ⟨rfl, rfl⟩ | ⟨rfl, rfl⟩ | ⟨rfl, rfl⟩ | ⟨rfl, rfl⟩ | ⟨rfl, rfl⟩ | ⟨rfl, rfl⟩
  ·have n9 : p 9 = true := by cases hq : p 9 with | true => rfl | false => exact absurd (g9 hq).1 (by rw [hp]; decide)
   rw [hp, n9] at hH
   refine po_op (Dw := False) (k := 1) ha rfl ?_
   refine Vc call51 (portref2_without_c (Dw := False) w1 hB1 hA1 x v61 (Sl.tr h62 ht) v63 (Sl.tr h64 ht) v65 (Sl.tr h66 ht) v.id_ hH hx70) ?_
   rintro _ w2 ⟨va, vb, vc, A2, rfl, hH2, ht2⟩
   refine V_po3 (Dw := False) (XA.cutTr (Dw := False) ht ht2) fun a ha => ?_
   exact ⟨A2, _, u42, u43, u8, u9, va, vb, vc, vd, ve, vf, ba, bb, ha.sb, Tr.trans ht ht2, by have := Hp.perm hH2 (perm_mid2 [_, _, _] _ _ _); show Hp _ _ _ ((bif p 8 then _ else _) ++ ((bif p 7 then _ else [obC _ (bif p 9 then _ else _) _]) ++ _)); rw [n9]; exact this, (fun _ => rfl), (fun h => Sl.tr (f5 h) ht2), (fun h => ⟨(f6 h).1, Sl.tr (f6 h).2.1 ht2, Sl.tr (f6 h).2.2.1 ht2, Sl.tr (f6 h).2.2.2 ht2⟩), f7, f8, (fun h => absurd (n9.symm.trans h) (by decide)), g10⟩
  ·refine po_op (Dw := False) (k := 1) ha rfl ?_
   refine V_buildSlice (Dw := False) (cells := #[Ii v.id_, .string v.title, .string v.body]) (l := ([v] : List know_Entry)) (len := 1) underlying22 sizeOf33 zeroValue33 rfl (by kernel_rfl) (show (1 * 3 : Nat) ≠ 0 by decide) (show (1 * 3 : Nat) ≤ 2 ^ 24 by decide) hA1 ⟨[Ii v.id_, .string v.title, .string v.body], _, rfl, ⟨[Ii v.id_], _, rfl, rfl, ⟨[.string v.title], _, rfl, rfl, rfl⟩⟩, rfl⟩ rfl rfl ?_
   intro v2 w2 hk2 h2
   have ht2 := Kp.tr hk2 hA1 hB1
   refine V_po3 (Dw := False) (XA.cutTr (Dw := False) ht ht2) fun a ha => ?_
   exact ⟨A1, u40, _, u43, u8, u9, va, vb, vc, vd, ve, vf, ba, bb, ha.sb, Tr.trans ht ht2, Hp.kp hH hk2, f3, (fun _ => h2), (fun h => ⟨(f6 h).1, Sl.tr (f6 h).2.1 ht2, Sl.tr (f6 h).2.2.1 ht2, Sl.tr (f6 h).2.2.2 ht2⟩), f7, f8, g9, g10⟩
  ·have n10 : p 10 = true := by cases hq : p 10 with | true => rfl | false => exact absurd (g10 hq).1 (by rw [hp]; decide)
   rw [n10] at hH
   refine po_op (Dw := False) (k := 1) ha rfl ?_
   refine V_call call17 rfl rfl rfl rfl (portref2_indexOf_c w1 hA1 ([v] : List know_Entry) u42 (f5 (po_dep hd rfl 5 (by kernel_rfl))) hx86) ?_
   rintro _ w2 ⟨vd, ve, vf, rfl, r1, r2, r3, hk2⟩
   have ht2 := Kp.tr hk2 hA1 hB1
   refine V_po3 (Dw := False) (XA.cutTr (Dw := False) ht ht2) fun a ha => ?_
   exact ⟨A1, u40, u42, _, u8, u9, va, vb, vc, vd, ve, vf, ba, bb, ha.sb, Tr.trans ht ht2, by have := Hp.kp hH hk2; show Hp _ _ _ ((bif p 8 then _ else [obC _ (bif p 10 then _ else _) _]) ++ _); rw [n10]; exact this, f3, (fun h => Sl.tr (f5 h) ht2), (fun _ => ⟨rfl, r1, r2, r3⟩), f7, f8, g9, (fun h => absurd (n10.symm.trans h) (by decide))⟩
  ·have n9 : p 9 = true := by cases hq : p 9 with | true => rfl | false => exact absurd (g9 hq).2 (by rw [hp]; decide)
   rw [hp, n9] at hH
   refine po_op (Dw := False) (k := 1) ha rfl ?_
   refine V_allocH (Dw := False) (B := w.heap.size) hH zeroValue26 hB1 hA1 rfl ?_
   intro ba w2 A2 hH2 ht2
   refine V_po3 (Dw := False) (XA.cutTr (Dw := False) ht ht2) fun a ha => ?_
   exact ⟨A2, u40, u42, u43, _, u9, va, vb, vc, vd, ve, vf, ba, bb, ha.sb, Tr.trans ht ht2, by have := Hp.perm hH2 (perm_mid [_] _ _); show Hp _ _ _ (_ ++ ([obC _ (bif p 9 then _ else _) _] ++ _)); rw [n9]; exact this, f3, (fun h => Sl.tr (f5 h) ht2), (fun h => ⟨(f6 h).1, Sl.tr (f6 h).2.1 ht2, Sl.tr (f6 h).2.2.1 ht2, Sl.tr (f6 h).2.2.2 ht2⟩), (fun _ => rfl), f8, (fun h => absurd (n9.symm.trans h) (by decide)), g10⟩
  ·have n10 : p 10 = true := by cases hq : p 10 with | true => rfl | false => exact absurd (g10 hq).2 (by rw [hp]; decide)
   rw [hp, n10] at hH
   refine po_op (Dw := False) (k := 1) ha rfl ?_
   refine V_allocH (Dw := False) (B := w.heap.size) hH zeroValue26 hB1 hA1 rfl ?_
   intro bb w2 A2 hH2 ht2
   refine V_po3 (Dw := False) (XA.cutTr (Dw := False) ht ht2) fun a ha => ?_
   exact ⟨A2, u40, u42, u43, u8, _, va, vb, vc, vd, ve, vf, ba, bb, ha.sb, Tr.trans ht ht2, by show Hp _ _ _ ([obC _ (bif p 10 then _ else _) _] ++ _); rw [n10]; exact hH2, f3, (fun h => Sl.tr (f5 h) ht2), (fun h => ⟨(f6 h).1, Sl.tr (f6 h).2.1 ht2, Sl.tr (f6 h).2.2.1 ht2, Sl.tr (f6 h).2.2.2 ht2⟩), f7, (fun _ => rfl), g9, (fun h => absurd (n10.symm.trans h) (by decide))⟩
  ·have d3 : p 3 = false := po_dep hd rfl 3 (by kernel_rfl)
   have d7 : p 7 = false := po_dep hd rfl 7 (by kernel_rfl)
   obtain rfl := f3 d3
   obtain rfl := f7 d7
   rw [hp, d3, d7] at hH
   replace hH : Hp w.heap.size A1 w1 (obC ba [.slice none 0 0, .slice none 0 0, .slice none 0 0] 26 :: ([o_3 va x70.ids, o_3 vb x70.sizes, o_83 vc x70.terms] ++ ((bif p 8 then [] else [obC bb (bif p 10 then [.slice none 0 0, .slice none 0 0, .slice none 0 0] else [vd, ve, vf]) 26]) ++ ((obC b20 [.slice none 0 0, .slice none 0 0, .slice none 0 0] 26 :: []))))) := Hp.perm hH ((perm_mid _ [_] _).trans (List.Perm.cons _ (perm_mid _ [_, _, _] _)))
   have kva : (va).oneCell' = true := by obtain ⟨_, _, e, _⟩ := Sl.form (Hp.any (α := Int) (e := 3) (v := va) (l := x70.ids) hH (i := 1) rfl); rw [e]; rfl
   have kvb : (vb).oneCell' = true := by obtain ⟨_, _, e, _⟩ := Sl.form (Hp.any (α := Int) (e := 3) (v := vb) (l := x70.sizes) hH (i := 2) rfl); rw [e]; rfl
   have kvc : (vc).oneCell' = true := by obtain ⟨_, _, e, _⟩ := Sl.form (Hp.any (α := know_Term) (e := 83) (v := vc) (l := x70.terms) hH (i := 3) rfl); rw [e]; rfl
   refine po_op (Dw := False) (k := 1) ha rfl ?_
   refine V_storeC (Dw := False) (off := 0) (ds := [va, vb, vc]) hH (i := 0) rfl sizeOf26 rfl (Nat.le_of_ble_eq_true rfl) (by exact (List.forall_mem_cons.2 ⟨kva, (List.forall_mem_cons.2 ⟨kvb, (List.forall_mem_cons.2 ⟨kvc, (fun _ h => nomatch h)⟩)⟩)⟩)) rfl hB1 hA1 rfl rfl ?_
   intro w2 hH2 ht2
   refine V_po3 (Dw := False) (XA.cutTr (Dw := False) ht ht2) fun a ha => ?_
   exact ⟨A1, _, u42, u43, _, u9, va, vb, vc, vd, ve, vf, ba, bb, ha.sb, Tr.trans ht ht2, by have := Hp.perm hH2 (List.Perm.cons _ (perm_mid [_, _, _] (bif p 8 then [] else [obC bb (bif p 10 then [.slice none 0 0, .slice none 0 0, .slice none 0 0] else [vd, ve, vf]) 26]) _)); show Hp _ _ _ ((bif p 8 then _ else [obC _ (bif p 10 then _ else _) _]) ++ ((bif p 7 then _ else _) ++ ((bif p 3 then _ else _) ++ _))); rw [d3, d7]; exact Hp.perm this (perm_mid [_] _ _), f3, (fun h => Sl.tr (f5 h) ht2), (fun h => ⟨(f6 h).1, Sl.tr (f6 h).2.1 ht2, Sl.tr (f6 h).2.2.1 ht2, Sl.tr (f6 h).2.2.2 ht2⟩), f7, f8, (fun _ => ⟨d3, d7⟩), g10⟩
  have d6 : p 6 = false := po_dep hd rfl 6 (by kernel_rfl)
  have d8 : p 8 = false := po_dep hd rfl 8 (by kernel_rfl)
  have d9 : p 9 = false := po_dep hd rfl 9 (by kernel_rfl)
  obtain ⟨d3, d7⟩ := g9 d9
  obtain ⟨rfl, r1, r2, r3⟩ := f6 d6
  obtain rfl := f8 d8
  rw [hp, d8] at hH
  have kvd : (vd).oneCell' = true := by obtain ⟨_, _, e, _⟩ := Sl.form r1; rw [e]; rfl
  have kve : (ve).oneCell' = true := by obtain ⟨_, _, e, _⟩ := Sl.form r2; rw [e]; rfl
  have kvf : (vf).oneCell' = true := by obtain ⟨_, _, e, _⟩ := Sl.form r3; rw [e]; rfl
  refine po_op (Dw := False) (k := 1) ha rfl ?_
  refine V_storeC (Dw := False) (off := 0) (ds := [vd, ve, vf]) hH (i := 0) rfl sizeOf26 rfl (Nat.le_of_ble_eq_true rfl) (by exact (List.forall_mem_cons.2 ⟨kvd, (List.forall_mem_cons.2 ⟨kve, (List.forall_mem_cons.2 ⟨kvf, (fun _ h => nomatch h)⟩)⟩)⟩)) rfl hB1 hA1 rfl rfl ?_
  intro w2 hH2 ht2
  refine V_po3 (Dw := False) (XA.cutTr (Dw := False) ht ht2) fun a ha => ?_
  exact ⟨A1, u40, u42, _, u8, _, va, vb, vc, vd, ve, vf, ba, bb, ha.sb, Tr.trans ht ht2, by show Hp _ _ _ ((bif p 8 then _ else _) ++ ((bif p 7 then _ else [obC _ (bif p 9 then _ else _) _]) ++ _)); rw [d8]; exact hH2, f3, (fun h => Sl.tr (f5 h) ht2), (fun h => ⟨(f6 h).1, Sl.tr (f6 h).2.1 ht2, Sl.tr (f6 h).2.2.1 ht2, Sl.tr (f6 h).2.2.2 ht2⟩), f7, f8, g9, (fun _ => ⟨d6, d8⟩)⟩
 intro a w118 ⟨A103, u40, u42, u43, u8, u9, v71, v73, v75, v87, v89, v91, b96, b101, ha435, ht434, hH433, e40, _, e43, e8, e9, _, _⟩
 obtain rfl := e40 rfl
 obtain ⟨rfl, h88, h90, h92⟩ := e43 rfl
 obtain rfl := e8 rfl
 obtain rfl := e9 rfl
 replace h17 := El.tr h17 ht434; replace hK := Tt hK ht434; replace hB := Bx hB ht434; replace hA := ht434.new
 replace hH : Hp _ _ _ (obC b101 [v87, v89, v91] 26 :: obC b96 [v71, v73, v75] 26 :: o_3 v71 x70.ids :: o_3 v73 x70.sizes :: o_83 v75 x70.terms :: obC b20 [.slice none 0 0, .slice none 0 0, .slice none 0 0] 26 :: []) := hH433
 refine V_of (E := [(3, Pt b14), (4, Pt b20), (8, Pt b96), (9, Pt b101)]) (ha435.sb) ?_
 simp only [List.take, List.drop]
 obtain ⟨A130, ht131, h132, hH133⟩ := Hp.freezeC (Dw := False) (α := know_Index) (x := x86) hH (i := 0) rfl hA (by exact ⟨[v87], _, rfl, ⟨_, rfl, h88⟩, ⟨[v89], _, rfl, ⟨_, rfl, h90⟩, ⟨_, rfl, h92⟩⟩⟩)
 replace h17 := El.tr h17 ht131; replace hK := Tt hK ht131; replace hB := Bx hB ht131; replace hA := ht131.new
 replace hH : Hp _ _ _ (obC b96 [v71, v73, v75] 26 :: o_3 v71 x70.ids :: o_3 v73 x70.sizes :: o_83 v75 x70.terms :: obC b20 [.slice none 0 0, .slice none 0 0, .slice none 0 0] 26 :: []) := hH133
 refine To ?_
 refine C_seq (Sr (Vy (Y_fieldAddrC (off2 := 0) underlying26 rfl sizeOf23 (by decide) rfl rfl) (Ld (Hp.cell (j := 0) hH (i := 0) rfl rfl) isAgg23 (Vy (Y_lenSl (Hp.any (α := Int) (e := 3) (v := v71) (l := x70.ids) hH (i := 1) rfl) rfl underlying23 rfl) (Vy (Y_eql rfl rfl) (To ?_))))))
 refine Cc (fun hc134 => ?_) fun hc134 => ?_
 ·rw [if_pos hc134] at hm
  refine Sr ?_
  refine Vy (Y_build underlying26 zeroValue26 (Tryz_places26 _ underlying26) rfl (by with_unfolding_all rfl)) ?_
  refine V_storeC (Dw := False) (off := 0) (ds := [.slice none 0 0, .slice none 0 0, .slice none 0 0]) hH (i := 4) rfl sizeOf26 rfl (Nat.le_of_ble_eq_true rfl) (by exact (List.forall_mem_cons.2 ⟨rfl, (List.forall_mem_cons.2 ⟨rfl, (List.forall_mem_cons.2 ⟨rfl, (fun _ h => nomatch h)⟩)⟩)⟩)) rfl hB hA rfl rfl ?_
  intro w135 hH136 ht137
  replace hK := Tt hK ht137
  replace hH : Hp _ _ _ (obC b96 [v71, v73, v75] 26 :: o_3 v71 x70.ids :: o_3 v73 x70.sizes :: o_83 v75 x70.terms :: obC b20 [.slice none 0 0, .slice none 0 0, .slice none 0 0] 26 :: []) := hH136
  refine As (To ?_)
  obtain rfl := Oi hm
  refine C_ret ?_
  try simp only [↓ib, ↓th]
  exact retQ rfl (Res.l2 results9 (RL.cell rfl (loadVar_agg (Hp.part (off := 0) (n := 3) (ds := [.slice none 0 0, .slice none 0 0, .slice none 0 0]) hH (i := 4) rfl rfl) isAgg26 sizeOf26)) (RL.tmp rfl)) ⟨.slice none 0 0, .slice none 0 0, .slice none 0 0, rfl, Sl.nil, Sl.nil, Sl.nil, hK.kp⟩
 rw [if_neg (nt hc134)] at hm
 refine Sk ?_
 refine Sr (Vy (Y_fieldAddrC (off2 := 0) underlying26 rfl sizeOf23 (by decide) rfl rfl) (Ld (Hp.cell (j := 0) hH (i := 0) rfl rfl) isAgg23 ?_))
 have h138 := El_know_Entry_0 h17
 refine Fa underlying33 rfl sizeOf3 (Li h138 isAgg3 ?_)
 obtain ⟨x139, hx139, hm⟩ := Bs hm
 refine Vc call52 (slices_BinarySearch_Lint_int_c w118 x70.ids v71 (Hp.any (α := Int) (e := 3) (v := v71) (l := x70.ids) hH (i := 1) rfl) v.id_ hx139) ?_
 rintro _ _ ⟨rfl, rfl⟩
 refine Mm (Vy (Y_extract rfl rfl) (Vy (Y_extract rfl rfl) (As (As (To ?_)))))
 refine C_seq ?_
 obtain ⟨x149, hx149, hm⟩ := Bs hm
 obtain ⟨x160, hx160, hm⟩ := Bs hm
 obtain ⟨x173, hx173, hm⟩ := Bs hm
 refine C_region_po (Dw := False) (fun k => A130 k ∧ k < w118.heap.size ∨ k = b96) 17 [(1, 0), (1, 1), (1, 2), (1, 3), (1, 4), (1, 7), (1, 8), (1, 9), (1, 10), (1, 11), (1, 12), (1, 13)] [(3, 5), (3, 6), (3, 14), (3, 15), (3, 16)] (fun p a w' => ∃ (A' : Nat → Prop) (u62 u63 u71 u72 u73 va vb : Value), Has ⟨117, [], none⟩ a [(4, Pt b20), (8, Pt b96), (9, Pt b101), (10, Ii x139.1), (58, v71), (59, Ii x139.1), (61, Ii v.id_), (65, v73), (66, Ii x139.1), (70, Ii x149), (62, u62), (63, u63), (71, u71), (72, u72), (73, u73)] ∧ Tr False w.heap.size A130 w118 A' w' ∧ Hp w.heap.size A' w' ((obC b96 [v71, v73, v75] 26 :: o_3 va (bif p 6 then x70.ids else x160) :: o_3 vb (bif p 15 then x70.sizes else x173) :: o_83 v75 x70.terms :: obC b20 [.slice none 0 0, .slice none 0 0, .slice none 0 0] 26 :: []) ++ ((bif p 5 then [] else bif p 6 then [o_3 u62 ([v.id_] : List Int)] else []) ++ (bif p 14 then [] else bif p 15 then [o_3 u71 ([x149] : List Int)] else []))) ∧ (p 6 = true → va = v71) ∧ (p 15 = true → vb = v73) ∧ (p 6 = false → u63 = va) ∧ (p 15 = false → u72 = vb) ∧ (p 6 = false → p 5 = false) ∧ (p 15 = false → p 6 = false ∧ p 14 = false) ∧ (p 16 = false → u73 = Pt b96)) Tryz_mixed (by kernel_rfl) (fun w140 hk141 hs142 => ?_) ?_ ?_
 ·have ht143 := Kp.tr hk141 hA hB
  replace hH := Hp.kp hH hk141; replace h17 := El.tr h17 ht143; replace h132 := El.tr h132 ht143
  refine CH_q2 rfl (Qv (fun w' hw' => Y_fieldAddrC (off2 := 0) underlying26 rfl sizeOf23 (by decide) rfl rfl) (VQ_CH (CH_q2 rfl ?_)))
  refine VQ_y (fun w' hw' => Y_load ((World.cell?_of_block ((XA.cutB hs142 hw').2 _ (World.block_lt_of_cell? _ _ (Hp.cell (j := 0) hH (i := 0) rfl rfl)) (Or.inr rfl))).trans (Hp.cell (j := 0) hH (i := 0) rfl rfl)) isAgg23 rfl) rfl rfl rfl ?_
  refine VQ_CH (CH_q2 rfl (Qm (VQ_CH (CH_q2 rfl ?_))))
  have h144 := El_know_Entry_0 h17
  refine Qf underlying33 rfl sizeOf3 (VQ_CH (CH_q2 rfl (Ql (fun w' hw' => (El.int (El.keep h144 (XA.ex (XA.inl (XA.cutB hs142 hw')))))) isAgg3 (VQ_CH (CH_q2 rfl (Qv (fun w' hw' => Y_fieldAddrC (off2 := 1) underlying26 rfl sizeOf23 (by decide) rfl rfl) (VQ_CH (CH_q2 rfl ?_))))))))
  refine VQ_y (fun w' hw' => Y_load ((World.cell?_of_block ((XA.cutB hs142 hw').2 _ (World.block_lt_of_cell? _ _ (Hp.cell (j := 1) hH (i := 0) rfl rfl)) (Or.inr rfl))).trans (Hp.cell (j := 1) hH (i := 0) rfl rfl)) isAgg23 rfl) rfl rfl rfl ?_
  refine VQ_CH (CH_q2 rfl (Qm (VQ_CH (CH_q2 rfl ?_))))
  have h145 := El_know_Index_1 h132
  refine Qf underlying26 rfl sizeOf23 (VQ_CH (CH_q2 rfl ?_))
  obtain ⟨v146, h147, h148⟩ := El.list h145
  refine Ql (fun w' hw' => ((World.cell?_of_block ((XA.cutB hs142 hw').2 _ h145.2.1 (Or.inl h145.1))).trans h147)) isAgg23 (VQ_CH (CH_q2 rfl ?_))
  refine VQ_indexAddr h148 hx149 underlying23 sizeOf3 rfl rfl rfl ?_
  intro b150 o151 h152
  refine VQ_CH (CH_q2 rfl (Ql (fun w' hw' => (El.int (El.keep h152 (XA.ex (XA.inl (XA.cutB hs142 hw')))))) isAgg3 (VQ_CH ?_)))
  refine CH_state (Dw := False) fun a ha => ?_
  obtain ⟨u62, ha⟩ := Has.slot ha (d := 62) rfl
  obtain ⟨u63, ha⟩ := Has.slot ha (d := 63) rfl
  obtain ⟨u71, ha⟩ := Has.slot ha (d := 71) rfl
  obtain ⟨u72, ha⟩ := Has.slot ha (d := 72) rfl
  obtain ⟨u73, ha⟩ := Has.slot ha (d := 73) rfl
  exact ⟨_, u62, u63, u71, u72, u73, v71, v73, ha.sb, ht143, hH, (fun _ => rfl), (fun _ => rfl), (fun h => nomatch h), (fun h => nomatch h), (fun h => nomatch h), (fun h => nomatch h), (fun h => nomatch h)⟩
 ·intro p k i hmem hp hd a w1 ⟨A1, u62, u63, u71, u72, u73, va, vb, ha, ht, hH, e6, e15, f6, f15, g6, g15, f16⟩
  have hB1 := Nat.le_trans hB ht.ex.size
  have hA1 := ht.new
  simp only [List.mem_cons, Prod.mk.injEq, List.not_mem_nil, or_false] at hmem
  rcases hmem with ⟨rfl, rfl⟩ | ⟨rfl, rfl⟩ | ⟨rfl, rfl⟩ | ⟨rfl, rfl⟩ | ⟨rfl, rfl⟩
  ·have n6 : p 6 = true := by cases hq : p 6 with | true => rfl | false => exact absurd (g6 hq) (by rw [hp]; decide)
   rw [hp, n6] at hH
   refine po_op (Dw := False) (k := 1) ha rfl ?_
   refine V_buildOwnH (Dw := False) (l := ([v.id_] : List Int)) (len := 1) hH underlying23 sizeOf3 zeroValue3 rfl (by with_unfolding_all rfl) (show (1 * 1 : Nat) ≠ 0 by decide) (show (1 * 1 : Nat) ≤ 2 ^ 24 by decide) hB1 hA1 ⟨[Ii v.id_], _, rfl, rfl, rfl⟩ rfl rfl ?_
   intro v2 w2 A2 hH2 ht2
   refine V_po3 (Dw := False) (XA.cutTrB (Dw := False) ht ht2 (((Hp.cells hH2 (i := 1) rfl).2.1).trans ((Hp.cells hH (i := 0) rfl).2.1).symm)) fun a ha => ?_
   have hH3 := Hp.perm hH2 (perm_mid [_] (obC b96 [v71, v73, v75] 26 :: o_3 va x70.ids :: o_3 vb (bif p 15 then x70.sizes else x173) :: o_83 v75 x70.terms :: obC b20 [.slice none 0 0, .slice none 0 0, .slice none 0 0] 26 :: []) (bif p 14 then [] else bif p 15 then [o_3 u71 ([x149] : List Int)] else []))
   exact ⟨A2, _, u63, u71, u72, u73, va, vb, ha.sb, Tr.trans ht ht2, by show Hp _ _ _ (_ ++ ((bif p 6 then _ else _) ++ _)); dsimp only; rw [n6]; exact hH3, e6, e15, (fun h => absurd (n6.symm.trans h) (by decide)), f15, (fun h => absurd (n6.symm.trans h) (by decide)), g15, f16⟩
  ·have d5 : p 5 = false := po_dep hd rfl 5 (by kernel_rfl)
   have n15 : p 15 = true := by cases hq : p 15 with | true => rfl | false => exact absurd (g15 hq).1 (by rw [hp]; decide)
   rw [hp, d5] at hH
   obtain rfl := (e6 hp).symm
   replace hH : Hp w.heap.size A1 w1 (o_3 u62 ([v.id_] : List Int) :: ((obC b96 [v71, v73, v75] 26 :: o_3 v71 x70.ids :: o_3 vb (bif p 15 then x70.sizes else x173) :: o_83 v75 x70.terms :: obC b20 [.slice none 0 0, .slice none 0 0, .slice none 0 0] 26 :: []) ++ (bif p 14 then [] else bif p 15 then [o_3 u71 ([x149] : List Int)] else []))) := Hp.perm hH (perm_mid _ [_] _)
   refine po_op (Dw := False) (k := 1) ha rfl ?_
   refine Vc call53 (slices_Insert_Lint_int_c (Dw := False) w1 x139.1 hH (i := 1) rfl hB1 hA1 hx160) ?_
   rintro vn w2 ⟨_, A2, rfl, hH2, ht2⟩
   replace hH2 : Hp w.heap.size A2 w2 ((obC b96 [v71, v73, v75] 26 :: o_3 vn x160 :: o_3 vb (bif p 15 then x70.sizes else x173) :: o_83 v75 x70.terms :: obC b20 [.slice none 0 0, .slice none 0 0, .slice none 0 0] 26 :: []) ++ (bif p 14 then [] else bif p 15 then [o_3 u71 ([x149] : List Int)] else [])) := hH2
   refine V_po3 (Dw := False) (XA.cutTrB (Dw := False) ht ht2 (((Hp.cells hH2 (i := 0) rfl).2.1).trans ((Hp.cells hH (i := 1) rfl).2.1).symm)) fun a ha => ?_
   exact ⟨A2, u62, _, u71, u72, u73, vn, vb, ha.sb, Tr.trans ht ht2, by show Hp _ _ _ (_ ++ ((bif p 5 then _ else _) ++ _)); dsimp only; rw [d5]; exact hH2, (fun h => Bool.noConfusion (show false = true from h)), e15, (fun _ => rfl), f15, (fun _ => d5), (fun h => absurd (n15.symm.trans h) (by decide)), f16⟩
  ·have n15 : p 15 = true := by cases hq : p 15 with | true => rfl | false => exact absurd (g15 hq).2 (by rw [hp]; decide)
   rw [hp, n15] at hH
   refine po_op (Dw := False) (k := 1) ha rfl ?_
   refine V_buildOwnH (Dw := False) (l := ([x149] : List Int)) (len := 1) hH underlying23 sizeOf3 zeroValue3 rfl (by with_unfolding_all rfl) (show (1 * 1 : Nat) ≠ 0 by decide) (show (1 * 1 : Nat) ≤ 2 ^ 24 by decide) hB1 hA1 ⟨[Ii x149], _, rfl, rfl, rfl⟩ rfl rfl ?_
   intro v2 w2 A2 hH2 ht2
   refine V_po3 (Dw := False) (XA.cutTrB (Dw := False) ht ht2 (((Hp.cells hH2 (i := 1) rfl).2.1).trans ((Hp.cells hH (i := 0) rfl).2.1).symm)) fun a ha => ?_
   have hH3 := Hp.perm hH2 (perm_mid2 [_] (obC b96 [v71, v73, v75] 26 :: o_3 va (bif p 6 then x70.ids else x160) :: o_3 vb x70.sizes :: o_83 v75 x70.terms :: obC b20 [.slice none 0 0, .slice none 0 0, .slice none 0 0] 26 :: []) (bif p 5 then [] else bif p 6 then [o_3 u62 ([v.id_] : List Int)] else []) [])
   exact ⟨A2, u62, u63, _, u72, u73, va, vb, ha.sb, Tr.trans ht ht2, by show Hp _ _ _ (_ ++ (_ ++ (bif p 15 then _ else _))); dsimp only; rw [n15]; exact hH3, e6, e15, f6, (fun h => absurd (n15.symm.trans h) (by decide)), g6, (fun h => absurd (n15.symm.trans h) (by decide)), f16⟩
  ·have d6 : p 6 = false := po_dep hd rfl 6 (by kernel_rfl)
   have d14 : p 14 = false := po_dep hd rfl 14 (by kernel_rfl)
   have d5 := g6 d6
   rw [hp, d5, d6, d14] at hH
   obtain rfl := (e15 hp).symm
   replace hH : Hp w.heap.size A1 w1 (o_3 u71 ([x149] : List Int) :: ((obC b96 [v71, v73, v75] 26 :: o_3 va x160 :: o_3 v73 x70.sizes :: o_83 v75 x70.terms :: obC b20 [.slice none 0 0, .slice none 0 0, .slice none 0 0] 26 :: []) ++ [])) := Hp.perm hH (perm_mid _ [_] [])
   refine po_op (Dw := False) (k := 1) ha rfl ?_
   refine Vc call53 (slices_Insert_Lint_int_c (Dw := False) w1 x139.1 hH (i := 2) rfl hB1 hA1 hx173) ?_
   rintro vn w2 ⟨_, A2, rfl, hH2, ht2⟩
   replace hH2 : Hp w.heap.size A2 w2 ((obC b96 [v71, v73, v75] 26 :: o_3 va x160 :: o_3 vn x173 :: o_83 v75 x70.terms :: obC b20 [.slice none 0 0, .slice none 0 0, .slice none 0 0] 26 :: []) ++ []) := hH2
   refine V_po3 (Dw := False) (XA.cutTrB (Dw := False) ht ht2 (((Hp.cells hH2 (i := 0) rfl).2.1).trans ((Hp.cells hH (i := 1) rfl).2.1).symm)) fun a ha => ?_
   exact ⟨A2, u62, u63, u71, _, u73, va, vn, ha.sb, Tr.trans ht ht2, by show Hp _ _ _ ((_ :: obS _ _ (bif p 6 then _ else _) :: _) ++ ((bif p 5 then _ else bif p 6 then _ else _) ++ (bif p 14 then _ else _))); dsimp only; rw [d5, d6, d14]; exact hH2, e6, (fun h => Bool.noConfusion (show false = true from h)), f6, (fun _ => rfl), g6, (fun _ => ⟨d6, d14⟩), f16⟩
  refine po_op (Dw := False) (k := 1) ha rfl ?_
  refine Vy (Y_fieldAddrC (off2 := 0) underlying26 rfl sizeOf23 (by decide) rfl rfl) ?_
  refine V_po3 (Dw := False) (XA.kp (Dw := False) (Kp.refl (Dw := False) _)) fun a ha => ?_
  exact ⟨A1, u62, u63, u71, u72, _, va, vb, ha.sb, ht, hH, e6, e15, f6, f15, g6, g15, (fun _ => rfl)⟩
 intro a w175 ⟨A176, u62, u63, u71, u72, u73, v161, v174, ha432, ht431, hH430, _, _, e63, e72, _, _, e73⟩
 obtain rfl := (e63 rfl).symm
 obtain rfl := (e72 rfl).symm
 obtain rfl := e73 rfl
 replace h132 := El.tr h132 ht431; replace hK := Tt hK ht431; replace hB := Bx hB ht431; replace hA := ht431.new
 replace hH : Hp _ _ _ (obC b96 [v71, v73, v75] 26 :: o_3 v161 x160 :: o_3 v174 x173 :: o_83 v75 x70.terms :: obC b20 [.slice none 0 0, .slice none 0 0, .slice none 0 0] 26 :: []) := hH430
 refine V_of (E := [(4, Pt b20), (8, Pt b96), (9, Pt b101), (63, v161), (72, v174), (73, Pt b96)]) (ha432.sb) ?_
 simp only [List.take, List.drop]
 have h184 : (v161).oneCell' = true := by obtain ⟨_, _, e, _⟩ := Sl.form (Hp.any (α := Int) (e := 3) (v := v161) (l := x160) hH (i := 1) rfl); rw [e]; rfl
 refine V_storeC (Dw := False) (off := 0) (ds := [v161, v73, v75]) hH (i := 0) rfl sizeOf23 (by show (v161 : Value).cells.size = _; rw [← Array.length_toList, Value.cells_one h184]; rfl) (Nat.le_of_ble_eq_true rfl) (by intro u hu; change u ∈ (v161 : Value).cells.toList at hu; rw [Value.cells_one h184] at hu; simp at hu; subst hu; assumption) (by show _ ++ (v161 : Value).cells.toList ++ _ = _; rw [Value.cells_one h184]; rfl) hB hA rfl rfl ?_
 intro w179 hH180 ht181
 replace h132 := El.tr h132 ht181; replace hK := Tt hK ht181; replace hB := Bx hB ht181; replace hA := ht181.new
 replace hH : Hp _ _ _ (obC b96 [v161, v73, v75] 26 :: o_3 v161 x160 :: o_3 v174 x173 :: o_83 v75 x70.terms :: obC b20 [.slice none 0 0, .slice none 0 0, .slice none 0 0] 26 :: []) := hH180
 refine Vy (Y_fieldAddrC (off2 := 1) underlying26 rfl sizeOf23 (by decide) rfl rfl) ?_
 have h190 : (v174).oneCell' = true := by obtain ⟨_, _, e, _⟩ := Sl.form (Hp.any (α := Int) (e := 3) (v := v174) (l := x173) hH (i := 2) rfl); rw [e]; rfl
 refine V_storeC (Dw := False) (off := 1) (ds := [v161, v174, v75]) hH (i := 0) rfl sizeOf23 (by show (v174 : Value).cells.size = _; rw [← Array.length_toList, Value.cells_one h190]; rfl) (Nat.le_of_ble_eq_true rfl) (by intro u hu; change u ∈ (v174 : Value).cells.toList at hu; rw [Value.cells_one h190] at hu; simp at hu; subst hu; assumption) (by show _ ++ (v174 : Value).cells.toList ++ _ = _; rw [Value.cells_one h190]; rfl) hB hA rfl rfl ?_
 intro w185 hH186 ht187
 replace h132 := El.tr h132 ht187; replace hK := Tt hK ht187; replace hB := Bx hB ht187; replace hA := ht187.new
 replace hH : Hp _ _ _ (obC b96 [v161, v174, v75] 26 :: o_3 v161 x160 :: o_3 v174 x173 :: o_83 v75 x70.terms :: obC b20 [.slice none 0 0, .slice none 0 0, .slice none 0 0] 26 :: []) := hH186
 refine To ?_
 refine C_seq (Sr ?_)
 have h191 := El_know_Index_2 h132
 refine Fa underlying26 rfl sizeOf24 ?_
 obtain ⟨v192, h193, h194⟩ := El.list h191
 refine Ld h193 isAgg24 (Vy (Y_lenSl h194 rfl underlying24 rfl) (Mm (To ?_)))
 have hn227 := Sl.le h194
 obtain ⟨o195, ho195, hm⟩ := Bs hm
 refine C_cutG (ι := (know_Index × Value × Value × Value × (Nat → Prop))) (fun ⟨s196, v202, v204, v206, A208⟩ => [(4, Pt b20), (8, Pt b96)]) (fun ⟨s196, v202, v204, v206, A208⟩ => fun w' => o195 = .fin s196 ∧ Hp w.heap.size A208 w' (obC b96 [v202, v204, v206] 26 :: o_3 v202 s196.ids :: o_3 v204 s196.sizes :: o_83 v206 s196.terms :: obC b20 [.slice none 0 0, .slice none 0 0, .slice none 0 0] 26 :: []) ∧ Tr False w.heap.size A176 w185 A208 w') ?_ ?_
 ·refine C_block ?_
  refine C_range ho195 (fun k198 s210 a w' => ∃ i : (Value × Value × Value × (Nat → Prop)), Has ⟨117, [], none⟩ a ([(4, Pt b20), (8, Pt b96), (76, v192), (77, Ii (x86.terms.length : Int)), (78, Ii (k198 : Int))]) ∧ Hp w.heap.size i.2.2.2 w' (obC b96 [i.1, i.2.1, i.2.2.1] 26 :: o_3 i.1 s210.ids :: o_3 i.2.1 s210.sizes :: o_83 i.2.2.1 s210.terms :: obC b20 [.slice none 0 0, .slice none 0 0, .slice none 0 0] 26 :: []) ∧ Tr False w.heap.size A176 w185 i.2.2.2 w') (fun a ha => ⟨(v161, v174, v75, A176), ha.sb, ⟨hH, Tr.refl (Dw := False) hA⟩⟩) ?_
  rintro K k198 s210 a w211 ⟨⟨v212, v214, v216, A218⟩, ha381, hH219, hr197⟩ hle223 K226 h225
  refine C_of ?_ ha381
  replace h194 := Sl.tr h194 hr197; replace hB := Bx hB hr197; replace hA := hr197.new
  replace hH : Hp _ _ _ (obC b96 [v212, v214, v216] 26 :: o_3 v212 s210.ids :: o_3 v214 s210.sizes :: o_83 v216 s210.terms :: obC b20 [.slice none 0 0, .slice none 0 0, .slice none 0 0] 26 :: []) := hH219
  refine Sr (Vy (Y_lss rfl rfl) (To ?_))
  refine C_seq ?_
  refine Cc (fun hc228 => ?_) fun hc228 => ?_
  ·have hlt224 := lt_of_dec hc228
   obtain ⟨x220, h221, h222⟩ := K226 hlt224
   refine Sk ?_
   refine C_seq ?_
   obtain ⟨s230, ho229, h221⟩ := Bs h221
   refine C_cutG (ι := (Value × Value × Value × (Nat → Prop))) (fun ⟨v232, v234, v236, A241⟩ => [(4, Pt b20), (8, Pt b96), (76, v192), (77, Ii (x86.terms.length : Int)), (78, Ii (k198 : Int))]) (fun ⟨v232, v234, v236, A241⟩ => fun w' => Hp w.heap.size A241 w' (obC b96 [v232, v234, v236] 26 :: o_3 v232 s230.ids :: o_3 v234 s230.sizes :: o_83 v236 s230.terms :: obC b20 [.slice none 0 0, .slice none 0 0, .slice none 0 0] 26 :: []) ∧ Tr False w.heap.size A218 w211 A241 w') ?_ ?_
   ·have hr231 : Tr False w.heap.size A218 w211 A218 w211 := Tr.refl (Dw := False) hA
    refine C_block (Sr ?_)
    obtain ⟨x243, hx243, ho229⟩ := Bs ho229
    refine V_indexAddr h194 hx243 underlying24 sizeOf83 rfl rfl rfl ?_
    intro b244 o245 h246
    obtain ⟨v247, h249, h248⟩ := El_know_Term h246
    refine Vy (Y_loadA h249 isAgg83 sizeOf83 rfl) ?_
    refine V_alloc zeroValue83 rfl ?_
    intro b250 w251 h252
    have h257 : (v247).oneCell' = true := by obtain ⟨_, _, e, _⟩ := Sl.form h248; rw [e]; rfl
    refine Sn h252 sizeOf83 ?_
    intro w253 h254
    have hk259 := h254.kp (Dw := False)
    have h258 : El (α := know_Term) A218 w253 b250 0 x243 := h254.el hA ⟨[.string x243.word], _, rfl, rfl, ⟨_, rfl, h248⟩⟩
    have ht260 := Kp.tr hk259 hA hB; replace hH := Hp.kp hH hk259; replace hr231 := Tt hr231 ht260; replace hB := Bx hB ht260; replace hA := ht260.new
    refine To ?_
    refine Sr (Vy (Y_fieldAddrC (off2 := 2) underlying26 rfl sizeOf24 (by decide) rfl rfl) (Ld (Hp.cell (j := 2) hH (i := 0) rfl rfl) isAgg24 (Vy (Y_makeFunc rfl rfl) ?_)))
    obtain ⟨A261, ht262, h263, _⟩ := Hp.freeze (Dw := False) (α := know_Term) (v := v216) (l := s210.terms) hH (i := 3) rfl hA
    obtain ⟨x265, hx265, ho229⟩ := Bs ho229
    refine Vc call54 (slices_IndexFunc_Lknow_Term_know_Term_c (Dw := False) w253 (A := A261) ht262.new s210.terms v216 h263 (fun y275 => portref2_PutOf_1 y275 x243) 55 #[] #[Pt b250] call55 (fun w271 A272 ht273 h274 y266 v267 h268 r269 h270 => (portref2_PutOf_1_c (Dw := False) w271 h274 y266 v267 h268 x243 b250 (El.tr (El.tr h258 ht262) ht273) h270).mono (fun _ _ h => ⟨h.1, h.2⟩)) hx265) ?_
    rintro _ w276 ⟨rfl, hk277⟩
    have ht278 := Kp.tr hk277 hA hB; replace hH := Hp.kp hH hk277; replace h258 := El.tr h258 ht278; replace hr231 := Tt hr231 ht278; replace hB := Bx hB ht278; replace hA := ht278.new
    refine As (To ?_)
    refine C_seq (Sr (Mm (Vy (Y_lss rfl rfl) (To ?_))))
    refine Cc (fun hc279 => ?_) fun hc279 => ?_
    ·rw [if_pos hc279] at ho229
     refine Sr (Vy (Y_fieldAddrC (off2 := 2) underlying26 rfl sizeOf24 (by decide) rfl rfl) (Ld (Hp.cell (j := 2) hH (i := 0) rfl rfl) isAgg24 ?_))
     obtain ⟨v280, h282, h281⟩ := El_know_Term h258
     refine Vy (Y_loadA h282 isAgg83 sizeOf83 rfl) ?_
     refine V_buildSlice (Dw := False) (cells := #[.string x243.word, v280]) (l := ([x243] : List know_Term)) (len := 1) underlying24 sizeOf83 zeroValue83 rfl (by obtain ⟨a287, c288, e289, _⟩ := Sl.form h281; subst e289; kernel_rfl) (show (1 * 2 : Nat) ≠ 0 by decide) (show (1 * 2 : Nat) ≤ 2 ^ 24 by decide) hA ⟨[.string x243.word, v280], _, rfl, ⟨[.string x243.word], _, rfl, rfl, ⟨_, rfl, h281⟩⟩, rfl⟩ rfl rfl ?_
     intro v283 w284 hk286 h285
     have ht290 := Kp.tr hk286 hA hB; replace hH := Hp.kp hH hk286; replace hr231 := Tt hr231 ht290; replace hB := Bx hB ht290; replace hA := ht290.new
     obtain ⟨x291, hx291, ho229⟩ := Bs ho229
     refine V_appendH (Dw := False) (e := 83) (v := v216) (l := s210.terms) (ti := t83) (bytes := 40) (lim := 3518437208883) hH (i := 3) rfl h285 hx291 underlying24 Tryz_info83 rfl rfl rfl rfl (by decide) (by decide) (by decide) hB hA rfl rfl rfl ?_
     intro v292 w293 A294 hH295 ht296
     replace hr231 := Tt hr231 ht296; replace hB := Bx hB ht296; replace hA := ht296.new
     replace hH : Hp _ _ _ (obC b96 [v212, v214, v216] 26 :: o_3 v212 s210.ids :: o_3 v214 s210.sizes :: o_83 v292 x291 :: obC b20 [.slice none 0 0, .slice none 0 0, .slice none 0 0] 26 :: []) := hH295
     refine Vy (Y_fieldAddrC (off2 := 2) underlying26 rfl sizeOf24 (by decide) rfl rfl) ?_
     have h302 : (v292).oneCell' = true := by obtain ⟨_, _, e, _⟩ := Sl.form (Hp.any (α := know_Term) (e := 83) (v := v292) (l := x291) hH (i := 3) rfl); rw [e]; rfl
     refine V_storeC (Dw := False) (off := 2) (ds := [v212, v214, v292]) hH (i := 0) rfl sizeOf24 (by show (v292 : Value).cells.size = _; rw [← Array.length_toList, Value.cells_one h302]; rfl) (Nat.le_of_ble_eq_true rfl) (by intro u hu; change u ∈ (v292 : Value).cells.toList at hu; rw [Value.cells_one h302] at hu; simp at hu; subst hu; assumption) (by show _ ++ (v292 : Value).cells.toList ++ _ = _; rw [Value.cells_one h302]; rfl) hB hA rfl rfl ?_
     intro w297 hH298 ht299
     replace hr231 := Tt hr231 ht299
     replace hH : Hp _ _ _ (obC b96 [v212, v214, v292] 26 :: o_3 v212 s210.ids :: o_3 v214 s210.sizes :: o_83 v292 x291 :: obC b20 [.slice none 0 0, .slice none 0 0, .slice none 0 0] 26 :: []) := hH298
     refine To ?_
     obtain rfl := Oi ho229
     refine C_exit (fun a ha303 => ?_)
     exact ⟨(v212, v214, v292, A294), ha303.sb, ⟨hH, hr231⟩⟩
    rw [if_neg (nt hc279)] at ho229
    refine Sk ?_
    refine C_seq ?_
    refine C_region_ch (Dw := False) A218 11 [(1, 0), (0, 1), (1, 2), (0, 3), (1, 4), (0, 5), (1, 7), (1, 8), (2, 6), (4, 9), (1, 10)] Tryz_mixed (by kernel_rfl) (fun w304 hk305 => ?_)
    have ht306 := Kp.tr hk305 hA hB; replace hH := Hp.kp hH hk305; replace h258 := El.tr h258 ht306; replace hr231 := Tt hr231 ht306; replace hB := Bx hB ht306; replace hA := ht306.new
    refine CH_q2 rfl (Qv (fun w' hw' => Y_fieldAddrC (off2 := 2) underlying26 rfl sizeOf24 (by decide) rfl rfl) (VQ_CH (CH_q1 rfl ?_)))
    refine VQ_y (fun w' hw' => Y_load ((World.cell?_of_block (hw'.block _ (World.block_lt_of_cell? _ _ (Hp.cell (j := 2) hH (i := 0) rfl rfl)))).trans (Hp.cell (j := 2) hH (i := 0) rfl rfl)) isAgg24 rfl) rfl rfl rfl ?_
    refine VQ_CH (CH_q2 rfl (Qm (VQ_CH (CH_q1 rfl ?_))))
    obtain ⟨x307, hx307, ho229⟩ := Bs ho229
    refine VQ_indexAddrH (α := know_Term) (e := 83) (v := v216) (l := s210.terms) hH (i := 3) rfl hx307 underlying24 sizeOf83 rfl rfl rfl ?_
    intro b308 o309 h310 hl311
    refine VQ_CH (CH_q2 rfl ?_)
    have h312 := El_know_Term_1 h310
    refine Qf underlying83 rfl sizeOf81 (VQ_CH (CH_q1 rfl ?_))
    obtain ⟨v313, h315, h314⟩ := ElR_know_Term (Hp.elemRep (e := 83) (v := v216) (l := s210.terms) hH (i := 3) rfl hl311 hx307)
    refine Ql (fun w' hw' => ((World.cell?_of_block (hw'.block _ (World.block_lt_of_cell? _ _ (h315 1 _ rfl)))).trans (h315 1 _ rfl))) isAgg81 (VQ_CH (CH_q2 rfl ?_))
    have h316 := El_know_Term_1 h258
    refine Qf underlying83 rfl sizeOf81 (VQ_CH (CH_q2 rfl ?_))
    obtain ⟨v317, h318, h319⟩ := El.list h316
    refine Ql (fun w' hw' => ((World.cell?_of_block (hw'.2 _ h316.2.1 h316.1)).trans h318)) isAgg81 (VQ_CH ?_)
    refine CH_l1 (k := 0) rfl ?_
    obtain ⟨x320, hx320, ho229⟩ := Bs ho229
    refine Vc call56 (slices_Clone_Lknow_Posting_know_Posting_c (Dw := False) w304 (B := w304.heap.size) (Nat.le_refl _) hA x307.list_ v313 h314 Hp.nil hx320) ?_
    rintro v321 w323 ⟨_, A324, rfl, hH325, ht326⟩
    have hk327 : Kp False w304 w323 := ht326.below
    have hH328 := Hp.join (Dw := False) hH hB ht326 hH325
    have ht329 := Tr.lower (Dw := False) ht326 hB
    replace h319 := Sl.tr h319 ht329; replace hr231 := Tt hr231 ht329; replace hB := Bx hB ht329; replace hA := ht329.new
    replace hH : Hp _ _ _ (o_86 v321 x320 :: obC b96 [v212, v214, v216] 26 :: o_3 v212 s210.ids :: o_3 v214 s210.sizes :: o_83 v216 s210.terms :: obC b20 [.slice none 0 0, .slice none 0 0, .slice none 0 0] 26 :: []) := hH328
    refine V_CH (hk327) ?_
    refine CH_l1 (k := 2) rfl ?_
    obtain ⟨x330, hx330, ho229⟩ := Bs ho229
    refine V_appendH (Dw := False) (e := 86) (v := v321) (l := x320) (ti := t86) (bytes := 56) (lim := 2513169434916) hH (i := 0) rfl h319 hx330 underlying81 Tryz_info86 rfl rfl rfl rfl (by decide) (by decide) (by decide) hB hA rfl rfl rfl ?_
    intro v331 w332 A333 hH334 ht335
    replace hr231 := Tt hr231 ht335; replace hB := Bx hB ht335; replace hA := ht335.new
    replace hH : Hp _ _ _ (o_86 v331 x330 :: obC b96 [v212, v214, v216] 26 :: o_3 v212 s210.ids :: o_3 v214 s210.sizes :: o_83 v216 s210.terms :: obC b20 [.slice none 0 0, .slice none 0 0, .slice none 0 0] 26 :: []) := hH334
    refine V_CHw ?_
    refine CH_q2 rfl (Qa (VQ_CH ?_))
    refine CH_tail ?_
    show V _ _ _ _ [] _ _
    refine To ?_
    refine Sr (Mm ?_)
    obtain ⟨x336, hx336, ho229⟩ := Bs ho229
    refine V_call call57 rfl rfl rfl rfl (Tryz_sf57 (Dw := False) call58 (fun w342 ht343 h344 p346 q353 c347 c354 c360 h348 h355 h345 => by obtain ⟨v349, v351, rfl, h350, h352⟩ := Rep_know_Posting h348; obtain ⟨v356, v358, rfl, h357, h359⟩ := Rep_know_Posting h355; exact (portref2_PutOf_2_c (Dw := True) w342 h344 p346 v349 h350 v351 h352 q353 v356 h357 v358 h359 h345).mono fun _ _ h => ⟨h.1, h.2⟩) hH (i := 0) rfl hB hA hx336) ?_
    rintro _ w337 ⟨rfl, hH338, ht339⟩
    replace hr231 := Tt hr231 ht339; replace hB := Bx hB ht339; replace hA := ht339.new
    replace hH : Hp _ _ _ (o_86 v331 x336 :: obC b96 [v212, v214, v216] 26 :: o_3 v212 s210.ids :: o_3 v214 s210.sizes :: o_83 v216 s210.terms :: obC b20 [.slice none 0 0, .slice none 0 0, .slice none 0 0] 26 :: []) := hH338
    refine To ?_
    refine C_region (Vy (Y_fieldAddrC (off2 := 2) underlying26 rfl sizeOf24 (by decide) rfl rfl) (Ld (Hp.cell (j := 2) hH (i := 1) rfl rfl) isAgg24 (Mm (Mm ?_))))
    refine V_indexAddrH (α := know_Term) (e := 83) (v := v216) (l := s210.terms) hH (i := 4) rfl hx307 underlying24 sizeOf83 rfl rfl rfl ?_
    intro b361 o362 h363 hl364
    have h365 := El_know_Term_1 h363
    refine Fa underlying83 rfl sizeOf81 ?_
    obtain ⟨A366, ht367, h368, hH369⟩ := Hp.freeze (Dw := False) (α := know_Posting) (v := v331) (l := x336) hH (i := 0) rfl hA
    replace hr231 := Tt hr231 ht367; replace hB := Bx hB ht367; replace hA := ht367.new
    replace hH : Hp _ _ _ (obC b96 [v212, v214, v216] 26 :: o_3 v212 s210.ids :: o_3 v214 s210.sizes :: o_83 v216 s210.terms :: obC b20 [.slice none 0 0, .slice none 0 0, .slice none 0 0] 26 :: []) := hH369
    obtain ⟨x371, hx371, ho229⟩ := Bs ho229
    have h377 : (v331).oneCell' = true := by obtain ⟨_, _, e, _⟩ := Sl.form h368; rw [e]; rfl
    refine V_storeFH (Dw := False) (α := know_Term) (e := 83) (v := v216) (l := s210.terms) (foff := 1) hH (i := 3) rfl hl364 hx307 hx371 (fun _ h => by obtain ⟨_, _, rfl, rfl, ⟨v1, rfl, h1⟩⟩ := h; rw [Value.cells_one h377]; exact ⟨[_], _, rfl, rfl, ⟨_, rfl, h368⟩⟩) sizeOf81 (by rw [← Array.length_toList, Value.cells_one h377]; rfl) (by intro u hu; rw [Value.cells_one h377] at hu; simp at hu; subst hu; exact h377) (by decide) hB hA (congrArg (fun z => some (Value.pointer (some ⟨_, z, none⟩))) (by simp [Nat.add_assoc])) rfl ?_
    intro w372 hH373 ht374
    replace hr231 := Tt hr231 ht374
    replace hH : Hp _ _ _ (obC b96 [v212, v214, v216] 26 :: o_3 v212 s210.ids :: o_3 v214 s210.sizes :: o_83 v216 x371 :: obC b20 [.slice none 0 0, .slice none 0 0, .slice none 0 0] 26 :: []) := hH373
    obtain rfl := Oi ho229
    refine V_end (fun a ha378 => ?_)
    exact ⟨(v212, v214, v216, A366), ha378.sb, ⟨hH, hr231⟩⟩
   rintro ⟨v232, v234, v236, A241⟩ w238 ⟨hH242, hk239⟩ a ha240
   replace hr197 := Tr.trans hr197 hk239; replace hA := hk239.new
   replace hH : Hp _ _ _ (obC b96 [v232, v234, v236] 26 :: o_3 v232 s230.ids :: o_3 v234 s230.sizes :: o_83 v236 s230.terms :: obC b20 [.slice none 0 0, .slice none 0 0, .slice none 0 0] 26 :: []) := hH242
   refine C_at (n := ⟨117, [], none⟩) (fun _ _ => rfl) ?_ ha240
   refine C_region (Vy (Y_addI rfl rfl) (Mm ?_))
   obtain rfl := Oi h221
   refine V_end (fun a ha379 => ?_)
   exact ⟨s230, hlt224, h222, ⟨(v232, v234, v236, A241), ha379.sub ⟨rfl, rfl, rfl, rfl, Ws hlt224 hn227, trivial⟩, ⟨hH, hr197⟩⟩⟩
  refine C_exit (fun a ha380 => ?_)
  exact ⟨(s210, v212, v214, v216, A218), ha380.sb, ⟨(h225 (eq_of_dec hle223 hc228)).symm, hH, hr197⟩⟩
 rintro ⟨s196, v202, v204, v206, A208⟩ w199 ⟨rfl, hH209, hk200⟩ a ha201
 rw [Lp.andThen_fin] at hm
 replace hK := Tr.trans hK hk200; replace hB := Nat.le_trans hB hk200.ex.size; replace hA := hk200.new
 replace hH : Hp _ _ _ (obC b96 [v202, v204, v206] 26 :: o_3 v202 s196.ids :: o_3 v204 s196.sizes :: o_83 v206 s196.terms :: obC b20 [.slice none 0 0, .slice none 0 0, .slice none 0 0] 26 :: []) := hH209
 refine C_at (n := ⟨117, [], none⟩) (fun _ _ => rfl) ?_ ha201
 refine Sr (Vy (Y_fieldAddrC (off2 := 2) underlying26 rfl sizeOf24 (by decide) rfl rfl) (Ld (Hp.cell (j := 2) hH (i := 0) rfl rfl) isAgg24 ?_))
 obtain ⟨x382, hx382, hm⟩ := Bs hm
 refine V_call call60 rfl rfl rfl rfl (Tryz_sf60 (Dw := False) call61 (fun w388 ht389 h390 p392 q397 c393 c398 c402 h394 h399 h391 => by obtain ⟨v395, rfl, h396⟩ := Rep_know_Term h394; obtain ⟨v400, rfl, h401⟩ := Rep_know_Term h399; exact (portref2_PutOf_3_c (Dw := True) w388 h390 p392 v395 h396 q397 v400 h401 h391).mono fun _ _ h => ⟨h.1, h.2⟩) hH (i := 3) rfl hB hA hx382) ?_
 rintro _ w383 ⟨rfl, hH384, ht385⟩
 replace hK := Tt hK ht385; replace hB := Bx hB ht385; replace hA := ht385.new
 replace hH : Hp _ _ _ (obC b96 [v202, v204, v206] 26 :: o_3 v202 s196.ids :: o_3 v204 s196.sizes :: o_83 v206 x382 :: obC b20 [.slice none 0 0, .slice none 0 0, .slice none 0 0] 26 :: []) := hH384
 refine To ?_
 refine Sr (Vy (Y_loadA (Hp.part (off := 0) (n := 3) (ds := [v202, v204, v206]) hH (i := 0) rfl rfl) isAgg26 sizeOf26 rfl) ?_)
 obtain ⟨A403, ht404, h405, hH406⟩ := Hp.freeze (Dw := False) (α := Int) (v := v202) (l := s196.ids) hH (i := 1) rfl hA
 replace hK := Tt hK ht404; replace hB := Bx hB ht404; replace hA := ht404.new
 replace hH : Hp _ _ _ (obC b96 [v202, v204, v206] 26 :: o_3 v204 s196.sizes :: o_83 v206 x382 :: obC b20 [.slice none 0 0, .slice none 0 0, .slice none 0 0] 26 :: []) := hH406
 obtain ⟨A408, ht409, h410, hH411⟩ := Hp.freeze (Dw := False) (α := Int) (v := v204) (l := s196.sizes) hH (i := 1) rfl hA
 replace h405 := Sl.tr h405 ht409; replace hK := Tt hK ht409; replace hB := Bx hB ht409; replace hA := ht409.new
 replace hH : Hp _ _ _ (obC b96 [v202, v204, v206] 26 :: o_83 v206 x382 :: obC b20 [.slice none 0 0, .slice none 0 0, .slice none 0 0] 26 :: []) := hH411
 obtain ⟨A413, ht414, h415, hH416⟩ := Hp.freeze (Dw := False) (α := know_Term) (v := v206) (l := x382) hH (i := 1) rfl hA
 replace h405 := Sl.tr h405 ht414; replace h410 := Sl.tr h410 ht414; replace hK := Tt hK ht414; replace hB := Bx hB ht414; replace hA := ht414.new
 replace hH : Hp _ _ _ (obC b96 [v202, v204, v206] 26 :: obC b20 [.slice none 0 0, .slice none 0 0, .slice none 0 0] 26 :: []) := hH416
 have h423 : (v202).oneCell' = true := by obtain ⟨_, _, e, _⟩ := Sl.form h405; rw [e]; rfl
 have h426 : (v204).oneCell' = true := by obtain ⟨_, _, e, _⟩ := Sl.form h410; rw [e]; rfl
 have h429 : (v206).oneCell' = true := by obtain ⟨_, _, e, _⟩ := Sl.form h415; rw [e]; rfl
 refine V_storeC (Dw := False) (off := 0) (ds := [v202, v204, v206]) hH (i := 1) rfl sizeOf26 rfl (Nat.le_of_ble_eq_true rfl) (by exact (List.forall_mem_cons.2 ⟨h423, (List.forall_mem_cons.2 ⟨h426, (List.forall_mem_cons.2 ⟨h429, (fun _ h => nomatch h)⟩)⟩)⟩)) rfl hB hA rfl rfl ?_
 intro w418 hH419 ht420
 replace h405 := Sl.tr h405 ht420; replace h410 := Sl.tr h410 ht420; replace h415 := Sl.tr h415 ht420; replace hK := Tt hK ht420
 replace hH : Hp _ _ _ (obC b96 [v202, v204, v206] 26 :: obC b20 [v202, v204, v206] 26 :: []) := hH419
 refine As (To ?_)
 obtain rfl := Oi hm
 refine C_ret ?_
 try simp only [↓ib, ↓th]
 exact retQ rfl (Res.l2 results9 (RL.cell rfl (loadVar_agg (Hp.part (off := 0) (n := 3) (ds := [v202, v204, v206]) hH (i := 1) rfl rfl) isAgg26 sizeOf26)) (RL.tmp rfl)) ⟨v202, v204, v206, rfl, (Sl.out (Dw := False) h405 hA0 hK), (Sl.out (Dw := False) h410 hA0 hK), (Sl.out (Dw := False) h415 hA0 hK), hK.kp⟩
end Go.Proofs.YtldkdabcdbgpbaaGreatDoor.W
