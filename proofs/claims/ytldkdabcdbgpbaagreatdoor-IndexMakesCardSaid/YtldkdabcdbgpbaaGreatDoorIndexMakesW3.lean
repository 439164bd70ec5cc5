/-
  Written by program (gen.py) from the IR of the dump: each function computes its model.
-/
import Derived.Test.YtldkdabcdbgpbaaGreatDoorIndexMakesW2
namespace Go.Proofs.YtldkdabcdbgpbaaGreatDoor.W
open Go Go.RowKit Go.Pu Go.Gw Go.Proofs Go.Proofs.YtldkdabcdbgpbaaGreatDoor.M
set_option linter.unusedVariables false
set_option linter.unusedSimpArgs false
variable {Dw : Prop}

/-- the postings of a stem, by the number of their entry -/
def idxIn (b : Nat) (m : List (Int × know_Posting)) : Ob := obMO Ptr idxPo b m
theorem portref2_indexOf_put_c (w : World) {A : Nat → Prop} {B : Nat} (hB : B ≤ w.heap.size) (hA : ∀ b, w.heap.size ≤ b → A b) (stem : ByteArray) (id pos : Int) (title : Bool) (b_m mb : Nat) (at_ : List (ByteArray × List (Int × know_Posting))) {L : List Ob} (hH : Hp B A w (obC b_m [.map (some mb)] 178 :: obMO MRf idxIn mb at_ :: L)) {r : List (ByteArray × List (Int × know_Posting))} (hm : idxAtPut at_ stem id pos title = some r) :
    Ret Tryz.prog 80 #[.string stem, .int .i64 id, .int .i64 pos, .bool title, .pointer (some ⟨b_m, 0, none⟩)] w fun u w' => ∃ A1 : Nat → Prop, u = .tuple #[] ∧ Hp B A1 w' (obC b_m [.map (some mb)] 178 :: obMO MRf idxIn mb r :: L) ∧ Tr False B A w A1 w' := by
  unfold idxAtPut at hm
  refine enter Tryz.func80 rfl Tryz.ntmps80 rfl ?_
  refine C_seq ?_
  refine C_seq ?_
  refine C_region ?_
  refine V_y (Y_load (Hp.cell (j := 0) hH (i := 0) rfl rfl) Tryz.isAgg178 rfl) rfl rfl rfl ?_
  refine V_y (Y_move rfl) rfl rfl rfl ?_
  refine V_lookupMO1 hH (i := 1) rfl Tryz.underlying178 Tryz.underlying9 Tryz.zeroValue179 rfl rfl rfl rfl ?_
  intro o1 ho1
  refine V_y (Y_eqlMN Tryz.underlying179 rfl rfl) rfl rfl rfl ?_
  refine V_to (fun _ _ => rfl) ?_
  refine C_cutG (ι := (Nat → Prop)) (fun _ => [(0, .string stem), (1, .int .i64 id), (2, .int .i64 pos), (3, .bool title), (4, .pointer (some ⟨b_m, 0, none⟩))]) (fun A' => fun w' => Hp B A' w' (obC b_m [.map (some mb)] 178 :: obMO MRf idxIn mb (mapHave at_ stem []) :: L) ∧ Tr False B A w A' w') ?_ ?_
  · refine C_cond rfl (fun hn => ?_) (fun hn => ?_)
    · have hnone : mapGet at_ stem = none := by
        cases hg : mapGet at_ stem with
        | none => rfl
        | some p => rw [hg] at ho1; rw [ho1] at hn; cases hn
      refine C_region ?_
      refine V_y (Y_load (Hp.cell (j := 0) hH (i := 0) rfl rfl) Tryz.isAgg178 rfl) rfl rfl rfl ?_
      refine V_y (Y_move rfl) rfl rfl rfl ?_
      refine V_makeMapB (Dw := False) Int (Option Ptr) hH hB hA rfl ?_
      intro mb2 w1 A1 hH1 ht1
      replace hB := Nat.le_trans hB ht1.ex.size
      replace hA := ht1.new
      have hH2 : Hp B A1 w1 (idxIn (Ref.b (⟨mb2⟩ : MRf)) [] :: obC b_m [.map (some mb)] 178 :: obMO MRf idxIn mb at_ :: L) := Hp.moNew Ptr idxPo hH1 (i := 0) rfl
      refine V_mapNewMO (Dw := False) (r := (⟨mb2⟩ : MRf)) (f := idxIn) (c := []) hH2 (i := 1) rfl hnone Tryz.underlying178 Tryz.underlying9 rfl rfl rfl hB hA ?_
      intro w2 hH3 ht2
      refine V_end (fun a ha => ?_)
      refine ⟨A1, ha.sub ⟨rfl, rfl, rfl, rfl, rfl, trivial⟩, ?_, Tr.trans (Dw := False) ht1 ht2⟩
      rw [mapHave_none hnone]
      exact hH3
    · have hsome : (mapGet at_ stem).isSome = true := by
        rw [← ho1]
        simpa using hn
      refine C_skip (fun a ha => ?_)
      refine ⟨A, ha.sub ⟨rfl, rfl, rfl, rfl, rfl, trivial⟩, ?_, Tr.refl (Dw := False) hA⟩
      have e : mapHave at_ stem ([] : List (Int × know_Posting)) = at_ := by unfold mapHave; exact if_pos hsome
      rw [e]
      exact hH
  rintro A1 w1 ⟨hH1, ht1⟩ a ha1
  replace hB := Nat.le_trans hB ht1.ex.size
  replace hA := ht1.new
  have hK := ht1
  have hnd := Hp.moNodup hH1 (i := 1) rfl
  have hg1 := mapHave_get at_ stem ([] : List (Int × know_Posting))
  refine C_at (n := ⟨53, [], none⟩) (fun _ _ => rfl) ?_ ha1
  generalize hmm : (mapGet at_ stem).getD [] = m at hm hg1
  refine C_seq ?_
  refine C_cutG (ι := (Option Ptr × Nat × Nat × Nat)) (fun ⟨o, j2, rb, j⟩ => [(0, .string stem), (1, .int .i64 id), (2, .int .i64 pos), (3, .bool title), (4, .pointer (some ⟨b_m, 0, none⟩)), (9, Cel.enc o)]) (fun ⟨o, j2, rb, j⟩ => fun w' => (mapHave at_ stem [])[j]? = some (stem, m) ∧ w' = w1 ∧ ((o = none ∧ mapGet m id = none ∧ Hp B A1 w' (obMO Ptr idxPo rb m :: obC b_m [.map (some mb)] 178 :: obMX MRf idxIn mb (mapHave at_ stem []) j ⟨rb⟩ :: L)) ∨ ∃ bp p, o = some ⟨bp⟩ ∧ mapGet m id = some p ∧ m[j2]? = some (id, p) ∧ (m.map (·.1)).Nodup ∧ Hp B A1 w' (idxPo (Ref.b (⟨bp⟩ : Ptr)) p :: obMX Ptr idxPo rb m j2 ⟨bp⟩ :: obC b_m [.map (some mb)] 178 :: obMX MRf idxIn mb (mapHave at_ stem []) j ⟨rb⟩ :: L))) ?_ ?_
  · refine C_region ?_
    refine V_y (Y_load (Hp.cell (j := 0) hH1 (i := 0) rfl rfl) Tryz.isAgg178 rfl) rfl rfl rfl ?_
    refine V_y (Y_move rfl) rfl rfl rfl ?_
    refine V_lookupMO hH1 (i := 1) rfl hg1 Tryz.underlying178 Tryz.underlying9 Tryz.zeroValue179 rfl rfl rfl rfl ?_
    rintro j ⟨rb⟩ hj hHo
    have hH : Hp B A1 w1 (obMO Ptr idxPo rb m :: obC b_m [.map (some mb)] 178 :: obMX MRf idxIn mb (mapHave at_ stem []) j ⟨rb⟩ :: L) := hHo
    refine V_y (Y_move rfl) rfl rfl rfl ?_
    cases hgm : mapGet m id with
    | none =>
      refine V_lookupMO1 hH (i := 0) rfl Tryz.underlying179 Tryz.underlying3 Tryz.zeroValue180 rfl rfl rfl rfl ?_
      intro o2 ho2
      rw [hgm] at ho2
      obtain rfl : o2 = none := by cases o2 with | none => rfl | some _ => cases ho2
      refine V_y (Y_assign rfl) rfl rfl rfl ?_
      refine V_end (fun a ha => ?_)
      exact ⟨(none, 0, rb, j), ha.sub ⟨rfl, rfl, rfl, rfl, rfl, rfl, trivial⟩, hj, rfl, .inl ⟨rfl, rfl, hH⟩⟩
    | some p =>
      have hndm := Hp.moNodup hH (i := 0) rfl
      refine V_lookupMO hH (i := 0) rfl hgm Tryz.underlying179 Tryz.underlying3 Tryz.zeroValue180 rfl rfl rfl rfl ?_
      rintro j2 ⟨bp⟩ hj2 hHp
      refine V_y (Y_assign rfl) rfl rfl rfl ?_
      refine V_end (fun a ha => ?_)
      exact ⟨(some ⟨bp⟩, j2, rb, j), ha.sub ⟨rfl, rfl, rfl, rfl, rfl, rfl, trivial⟩, hj, rfl, .inr ⟨bp, p, rfl, rfl, hj2, hndm, hHp⟩⟩
  rintro ⟨o, j2, rb, j⟩ w2 ⟨hj, rfl, hor⟩ a ha2
  refine C_at (n := ⟨53, [], none⟩) (fun _ _ => rfl) ?_ ha2
  refine C_seq ?_
  refine C_cutG (ι := (Nat × Nat × (Nat → Prop))) (fun ⟨bp, j2, A'⟩ => [(0, .string stem), (1, .int .i64 id), (2, .int .i64 pos), (3, .bool title), (4, .pointer (some ⟨b_m, 0, none⟩)), (9, .pointer (some ⟨bp, 0, none⟩))]) (fun ⟨bp, j2, A'⟩ => fun w' => (mapHave m id ⟨id, [], []⟩)[j2]? = some (id, (mapGet m id).getD ⟨id, [], []⟩) ∧ Hp B A' w' (idxPo (Ref.b (⟨bp⟩ : Ptr)) ((mapGet m id).getD ⟨id, [], []⟩) :: obMX Ptr idxPo rb (mapHave m id ⟨id, [], []⟩) j2 ⟨bp⟩ :: obC b_m [.map (some mb)] 178 :: obMX MRf idxIn mb (mapHave at_ stem []) j ⟨rb⟩ :: L) ∧ Tr False B A1 w2 A' w' ∧ ((mapHave m id (⟨id, [], []⟩ : know_Posting)).map (·.1)).Nodup) ?_ ?_
  · refine C_seq ?_
    refine C_region ?_
    refine V_y (Y_move rfl) rfl rfl rfl ?_
    refine V_y (Y_eqlPN Tryz.underlying180 rfl rfl) rfl rfl rfl ?_
    refine V_to (fun _ _ => rfl) ?_
    rcases hor with ⟨rfl, hgm, hH⟩ | ⟨bp, p, rfl, hgm, hj2, hndm, hH⟩
    · refine C_cond rfl (fun _ => ?_) (fun hc => by cases hc)
      refine C_seq ?_
      refine C_region ?_
      refine V_y (Y_move rfl) rfl rfl rfl ?_
      refine V_y (Y_build Tryz.underlying86 Tryz.zeroValue86 (Tryz_places86 _ Tryz.underlying86) rfl (by with_unfolding_all rfl)) rfl rfl rfl ?_
      refine V_boxH (Dw := False) (B := B) hH rfl hB hA rfl ?_
      intro bp w3 A3 hH3 ht3
      replace hB := Nat.le_trans hB ht3.ex.size
      replace hA := ht3.new
      have hndm := Hp.moNodup hH (i := 0) rfl
      replace hH : Hp B A3 w3 (idxPo (Ref.b (⟨bp⟩ : Ptr)) ⟨id, [], []⟩ :: obMO Ptr idxPo rb m :: obC b_m [.map (some mb)] 178 :: obMX MRf idxIn mb (mapHave at_ stem []) j ⟨rb⟩ :: L) := idxPo_new hH3
      refine V_y (Y_assign rfl) rfl rfl rfl ?_
      refine V_to (fun _ _ => rfl) ?_
      refine C_region ?_
      refine V_y (Y_load (Hp.cell (j := 0) hH (i := 2) rfl rfl) Tryz.isAgg178 rfl) rfl rfl rfl ?_
      refine V_y (Y_move rfl) rfl rfl rfl ?_
      refine V_y (Y_lookupMX hH (i := 3) rfl hj Tryz.underlying178 Tryz.underlying9 Tryz.zeroValue179 rfl rfl rfl) rfl rfl rfl ?_
      refine V_y (Y_move rfl) rfl rfl rfl ?_
      refine V_y (Y_move rfl) rfl rfl rfl ?_
      refine V_mapNewMX (Dw := False) (κ := Int) (k := id) (r := (⟨bp⟩ : Ptr)) (f := idxPo) (c := ⟨id, [], []⟩) (mb := rb) hH (i := 0) rfl hgm Tryz.underlying179 Tryz.underlying3 rfl rfl rfl hB hA ?_
      intro w4 hat hH4 ht4
      refine V_end (fun a ha => ?_)
      have e1 : mapHave m id (⟨id, [], []⟩ : know_Posting) = m ++ [(id, ⟨id, [], []⟩)] := mapHave_none hgm
      refine ⟨(bp, m.length, A3), ha.sub ⟨rfl, rfl, rfl, rfl, rfl, rfl, trivial⟩, ?_, ?_, Tr.trans (Dw := False) ht3 ht4, ?_⟩
      · rw [e1, hgm]; exact hat
      · rw [e1, hgm]; exact hH4
      · rw [e1, List.map_append, List.nodup_append]
        refine ⟨hndm, by simp, fun x hx y hy => ?_⟩
        obtain ⟨q, hq, rfl⟩ := List.mem_map.1 hx
        simp at hy
        subst hy
        intro e
        rw [← e, mapGet_some hndm hq] at hgm
        cases hgm
    · refine C_cond rfl (fun hc => by cases hc) (fun _ => ?_)
      refine C_skip (fun a ha => ?_)
      have e1 : mapHave m id (⟨id, [], []⟩ : know_Posting) = m := mapHave_some hgm
      refine ⟨(bp, j2, A1), ha.sub ⟨rfl, rfl, rfl, rfl, rfl, rfl, trivial⟩, ?_, ?_, Tr.refl (Dw := False) hA, ?_⟩
      · rw [e1, hgm]; exact hj2
      · rw [e1, hgm]; exact hH
      · rw [e1]; exact hndm
  rintro ⟨bp, j3, A3⟩ w3 ⟨hj3, hH3, ht3, hnd3⟩ a ha3
  replace hB := Nat.le_trans hB ht3.ex.size
  replace hA := ht3.new
  replace hK := Tr.trans (Dw := False) hK ht3
  refine C_at (n := ⟨53, [], none⟩) (fun _ _ => rfl) ?_ ha3
  refine C_seq ?_
  refine C_region ?_
  refine V_y (Y_move rfl) rfl rfl rfl ?_
  refine V_to (fun _ _ => rfl) ?_
  generalize hpp : (mapGet m id).getD (⟨id, [], []⟩ : know_Posting) = p at hm hj3 hH3
  obtain ⟨⟨vt, vb⟩, hHp⟩ := Hp.open hH3
  have hH : Hp B A3 w3 (obC bp [.int .i64 p.id_, vt, vb] 86 :: obS (α := Int) 3 vt p.title :: obS (α := Int) 3 vb p.body :: obMX Ptr idxPo rb (mapHave m id ⟨id, [], []⟩) j3 ⟨bp⟩ :: obC b_m [.map (some mb)] 178 :: obMX MRf idxIn mb (mapHave at_ stem []) j ⟨rb⟩ :: L) := hHp
  cases title
  · rw [if_neg (by decide)] at hm
    obtain ⟨l1, hl1, hm⟩ := Option.bind_eq_some_iff.1 hm
    obtain rfl := Option.some.inj hm
    refine C_cond rfl (fun hc => by cases hc) (fun _ => ?_)
    refine C_region ?_
    refine V_y (Y_move rfl) rfl rfl rfl ?_
    refine V_y (Y_move rfl) rfl rfl rfl ?_
    refine V_y (Y_nilCheck rfl) rfl rfl rfl ?_
    refine V_y (Y_fieldAddrC (off2 := 2) Tryz.underlying86 rfl Tryz.sizeOf23 (by decide) rfl rfl) rfl rfl rfl ?_
    refine V_y (Y_load (Hp.cell (j := 2) hH (i := 0) rfl rfl) Tryz.isAgg23 rfl) rfl rfl rfl ?_
    refine V_y (Y_move rfl) rfl rfl rfl ?_
    refine V_buildSlice (Dw := False) (cells := #[.int .i64 pos]) (l := ([pos] : List Int)) (len := 1) Tryz.underlying23 Tryz.sizeOf3 Tryz.zeroValue3 rfl (by with_unfolding_all rfl) (show (1 * 1 : Nat) ≠ 0 by decide) (show (1 * 1 : Nat) ≤ 2 ^ 24 by decide) hA ⟨[.int .i64 pos], _, rfl, rfl, rfl⟩ rfl rfl ?_
    intro v7 w7 hk7 h7
    have ht7 := Kp.tr (Dw := False) hk7 hA hB
    replace hH := Hp.kp (Dw := False) hH hk7
    replace hB := Nat.le_trans hB ht7.ex.size
    replace hA := ht7.new
    refine V_appendH (Dw := False) (e := 3) (v := vb) (l := p.body) (ti := Tryz.t3) (bytes := 8) (lim := 17592186044416) hH (i := 2) rfl h7 hl1 Tryz.underlying23 Tryz_info3 rfl rfl rfl rfl (by decide) (by decide) (by decide) hB hA rfl rfl rfl ?_
    intro v8 w8 A8 hH8 ht8
    replace hB := Nat.le_trans hB ht8.ex.size
    replace hA := ht8.new
    replace hH : Hp B A8 w8 (obC bp [.int .i64 p.id_, vt, vb] 86 :: obS (α := Int) 3 vt p.title :: obS (α := Int) 3 v8 l1 :: obMX Ptr idxPo rb (mapHave m id ⟨id, [], []⟩) j3 ⟨bp⟩ :: obC b_m [.map (some mb)] 178 :: obMX MRf idxIn mb (mapHave at_ stem []) j ⟨rb⟩ :: L) := hH8
    have one8 : v8.oneCell' = true := by obtain ⟨_, _, e, _⟩ := Hp.form hH (i := 2) rfl; rw [e]; rfl
    refine V_y (Y_nilCheck rfl) rfl rfl rfl ?_
    refine V_y (Y_fieldAddrC (off2 := 2) Tryz.underlying86 rfl Tryz.sizeOf23 (by decide) rfl rfl) rfl rfl rfl ?_
    refine V_storeC (Dw := False) (off := 2) (ds := [.int .i64 p.id_, vt, v8]) hH (i := 0) rfl Tryz.sizeOf23 (cells_of_one one8) (Nat.le_of_ble_eq_true rfl) (cells_all_one one8) (by rw [Value.cells_one one8]; rfl) hB hA rfl rfl ?_
    intro w9 hH9 ht9
    have hHq : Hp B A8 w9 (idxPo (Ref.b (⟨bp⟩ : Ptr)) ⟨p.id_, p.title, l1⟩ :: obMX Ptr idxPo rb (mapHave m id ⟨id, [], []⟩) j3 ⟨bp⟩ :: obC b_m [.map (some mb)] 178 :: obMX MRf idxIn mb (mapHave at_ stem []) j ⟨rb⟩ :: L) := Hp.pack (F := idxPoL bp ⟨p.id_, p.title, l1⟩) (vt, v8) hH9
    have hHr := Hp.moBack (i := 0) hHq rfl hj3
    rw [mapHave_put hnd3 hj3] at hHr
    replace hHr : Hp B A8 w9 (idxIn (Ref.b (⟨rb⟩ : MRf)) (mapPut m id ⟨p.id_, p.title, l1⟩) :: obC b_m [.map (some mb)] 178 :: obMX MRf idxIn mb (mapHave at_ stem []) j ⟨rb⟩ :: L) := hHr
    have hHs := Hp.moBack (i := 1) hHr rfl hj
    rw [mapHave_put hnd hj] at hHs
    refine V_end (fun a ha => normQ (retQ rfl (Res.zero Tryz.results80) ⟨A8, rfl, hHs, Tr.trans (Dw := False) hK (Tr.trans (Dw := False) ht7 (Tr.trans (Dw := False) ht8 ht9))⟩ a ha))
  · rw [if_pos rfl] at hm
    obtain ⟨l1, hl1, hm⟩ := Option.bind_eq_some_iff.1 hm
    obtain rfl := Option.some.inj hm
    refine C_cond rfl (fun _ => ?_) (fun hc => by cases hc)
    refine C_region ?_
    refine V_y (Y_move rfl) rfl rfl rfl ?_
    refine V_y (Y_move rfl) rfl rfl rfl ?_
    refine V_y (Y_nilCheck rfl) rfl rfl rfl ?_
    refine V_y (Y_fieldAddrC (off2 := 1) Tryz.underlying86 rfl Tryz.sizeOf23 (by decide) rfl rfl) rfl rfl rfl ?_
    refine V_y (Y_load (Hp.cell (j := 1) hH (i := 0) rfl rfl) Tryz.isAgg23 rfl) rfl rfl rfl ?_
    refine V_y (Y_move rfl) rfl rfl rfl ?_
    refine V_buildSlice (Dw := False) (cells := #[.int .i64 pos]) (l := ([pos] : List Int)) (len := 1) Tryz.underlying23 Tryz.sizeOf3 Tryz.zeroValue3 rfl (by with_unfolding_all rfl) (show (1 * 1 : Nat) ≠ 0 by decide) (show (1 * 1 : Nat) ≤ 2 ^ 24 by decide) hA ⟨[.int .i64 pos], _, rfl, rfl, rfl⟩ rfl rfl ?_
    intro v7 w7 hk7 h7
    have ht7 := Kp.tr (Dw := False) hk7 hA hB
    replace hH := Hp.kp (Dw := False) hH hk7
    replace hB := Nat.le_trans hB ht7.ex.size
    replace hA := ht7.new
    refine V_appendH (Dw := False) (e := 3) (v := vt) (l := p.title) (ti := Tryz.t3) (bytes := 8) (lim := 17592186044416) hH (i := 1) rfl h7 hl1 Tryz.underlying23 Tryz_info3 rfl rfl rfl rfl (by decide) (by decide) (by decide) hB hA rfl rfl rfl ?_
    intro v8 w8 A8 hH8 ht8
    replace hB := Nat.le_trans hB ht8.ex.size
    replace hA := ht8.new
    replace hH : Hp B A8 w8 (obC bp [.int .i64 p.id_, vt, vb] 86 :: obS (α := Int) 3 v8 l1 :: obS (α := Int) 3 vb p.body :: obMX Ptr idxPo rb (mapHave m id ⟨id, [], []⟩) j3 ⟨bp⟩ :: obC b_m [.map (some mb)] 178 :: obMX MRf idxIn mb (mapHave at_ stem []) j ⟨rb⟩ :: L) := hH8
    have one8 : v8.oneCell' = true := by obtain ⟨_, _, e, _⟩ := Hp.form hH (i := 1) rfl; rw [e]; rfl
    refine V_y (Y_nilCheck rfl) rfl rfl rfl ?_
    refine V_y (Y_fieldAddrC (off2 := 1) Tryz.underlying86 rfl Tryz.sizeOf23 (by decide) rfl rfl) rfl rfl rfl ?_
    refine V_storeC (Dw := False) (off := 1) (ds := [.int .i64 p.id_, v8, vb]) hH (i := 0) rfl Tryz.sizeOf23 (cells_of_one one8) (Nat.le_of_ble_eq_true rfl) (cells_all_one one8) (by rw [Value.cells_one one8]; rfl) hB hA rfl rfl ?_
    intro w9 hH9 ht9
    have hHq : Hp B A8 w9 (idxPo (Ref.b (⟨bp⟩ : Ptr)) ⟨p.id_, l1, p.body⟩ :: obMX Ptr idxPo rb (mapHave m id ⟨id, [], []⟩) j3 ⟨bp⟩ :: obC b_m [.map (some mb)] 178 :: obMX MRf idxIn mb (mapHave at_ stem []) j ⟨rb⟩ :: L) := Hp.pack (F := idxPoL bp ⟨p.id_, l1, p.body⟩) (v8, vb) hH9
    have hHr := Hp.moBack (i := 0) hHq rfl hj3
    rw [mapHave_put hnd3 hj3] at hHr
    replace hHr : Hp B A8 w9 (idxIn (Ref.b (⟨rb⟩ : MRf)) (mapPut m id ⟨p.id_, l1, p.body⟩) :: obC b_m [.map (some mb)] 178 :: obMX MRf idxIn mb (mapHave at_ stem []) j ⟨rb⟩ :: L) := hHr
    have hHs := Hp.moBack (i := 1) hHr rfl hj
    rw [mapHave_put hnd hj] at hHs
    refine V_end (fun a ha => normQ (retQ rfl (Res.zero Tryz.results80) ⟨A8, rfl, hHs, Tr.trans (Dw := False) hK (Tr.trans (Dw := False) ht7 (Tr.trans (Dw := False) ht8 ht9))⟩ a ha))
theorem sortStrs_perm {l m : List ByteArray} (h : l.Perm m) : sortStrsL l = sortStrsL m := by
  unfold sortStrsL
  rw [h.length_eq]
  split
  · congr 1
    congr 1
    refine List.Perm.eq_of_pairwise (le := (· ≤ ·)) (fun a b _ _ h1 h2 => List.le_antisymm h1 h2) ?_ ?_ ((List.mergeSort_perm _ _).trans ((h.map _).trans (List.mergeSort_perm _ _).symm))
    · exact (List.pairwise_mergeSort (le := fun x y => decide (x ≤ y)) (fun a b c h1 h2 => by simp only [decide_eq_true_eq] at *; exact List.le_trans h1 h2) (fun a b => by simp only [Bool.or_eq_true, decide_eq_true_eq]; exact List.le_total a b) _).imp fun h => by simpa using h
    · exact (List.pairwise_mergeSort (le := fun x y => decide (x ≤ y)) (fun a b c h1 h2 => by simp only [decide_eq_true_eq] at *; exact List.le_trans h1 h2) (fun a b => by simp only [Bool.or_eq_true, decide_eq_true_eq]; exact List.le_total a b) _).imp fun h => by simpa using h
  · rfl
theorem sortFunc_perm {cmp : know_Posting → know_Posting → Option Int} {l m : List know_Posting} (h : l.Perm m) : sortFuncL cmp l = sortFuncL cmp m := by
  unfold sortFuncL
  have hok : SortOk cmp l ↔ SortOk cmp m := by
    constructor
    · intro k
      exact ⟨by rw [← h.length_eq]; exact k.len, fun x hx y hy => k.says x (h.mem_iff.2 hx) y (h.mem_iff.2 hy), fun x hx => k.irrefl x (h.mem_iff.2 hx), fun x hx y hy z hz => k.trans x (h.mem_iff.2 hx) y (h.mem_iff.2 hy) z (h.mem_iff.2 hz), fun x hx y hy z hz => k.ntrans x (h.mem_iff.2 hx) y (h.mem_iff.2 hy) z (h.mem_iff.2 hz), fun x hx y hy => k.total x (h.mem_iff.2 hx) y (h.mem_iff.2 hy)⟩
    · intro k
      exact ⟨by rw [h.length_eq]; exact k.len, fun x hx y hy => k.says x (h.mem_iff.1 hx) y (h.mem_iff.1 hy), fun x hx => k.irrefl x (h.mem_iff.1 hx), fun x hx y hy z hz => k.trans x (h.mem_iff.1 hx) y (h.mem_iff.1 hy) z (h.mem_iff.1 hz), fun x hx y hy z hz => k.ntrans x (h.mem_iff.1 hx) y (h.mem_iff.1 hy) z (h.mem_iff.1 hz), fun x hx y hy => k.total x (h.mem_iff.1 hx) y (h.mem_iff.1 hy)⟩
  by_cases hl : SortOk cmp l
  · rw [if_pos hl, if_pos (hok.1 hl)]
    congr 1
    exact sort_unique hl h
  · rw [if_neg hl, if_neg fun k => hl (hok.2 k)]
set_option maxHeartbeats 1000000 in
theorem portref2_indexOf_c (w : World) {A : Nat → Prop} (hA : ∀ b, w.heap.size ≤ b → A b) (l : (List know_Entry)) (v_l : Value) (h_l : Sl A w v_l l) {r : know_Index} (hm : portref2_indexOf l = some r) : Ret Tryz.prog 17 #[v_l] w fun v w' => ∃ s0 s1 s2, v = .agg #[s0, s1, s2] ∧ Sl A w' s0 r.ids ∧ Sl A w' s1 r.sizes ∧ Sl A w' s2 r.terms ∧ Kp False w w' := by
  unfold portref2_indexOf at hm
  refine enter Tryz.func17 rfl Tryz.ntmps17 rfl ?_
  have hA0 := hA
  have hB := Nat.le_refl w.heap.size
  have hK : Tr False w.heap.size A w A w := Tr.refl (Dw := False) hA
  have hH : Hp w.heap.size A w [] := Hp.nil
  refine C_seq ?_
  refine C_region ?_
  refine V_allocH (Dw := False) (B := w.heap.size) hH Tryz.zeroValue26 hB hA rfl ?_
  intro b_r w1 A1 hH1 ht1
  replace h_l := Sl.tr (Dw := False) h_l ht1
  replace hK := Tr.trans (Dw := False) hK ht1
  replace hB := Nat.le_trans hB ht1.ex.size
  replace hA := ht1.new
  replace hH : Hp w.heap.size A1 w1 (obC b_r [.slice none 0 0, .slice none 0 0, .slice none 0 0] 26 :: []) := hH1
  refine V_to (fun _ _ => rfl) ?_
  refine C_seq ?_
  refine C_region ?_
  refine V_allocH (Dw := False) (B := w.heap.size) hH Tryz.zeroValue26 hB hA rfl ?_
  intro b_x w2 A2 hH2 ht2
  replace h_l := Sl.tr (Dw := False) h_l ht2
  replace hK := Tr.trans (Dw := False) hK ht2
  replace hB := Nat.le_trans hB ht2.ex.size
  replace hA := ht2.new
  replace hH : Hp w.heap.size A2 w2 (obC b_x [.slice none 0 0, .slice none 0 0, .slice none 0 0] 26 :: obC b_r [.slice none 0 0, .slice none 0 0, .slice none 0 0] 26 :: []) := hH2
  refine V_to (fun _ _ => rfl) ?_
  refine C_seq ?_
  refine C_region ?_
  refine V_makeMapB (Dw := False) ByteArray (Option MRf) hH hB hA rfl ?_
  intro mb w3 A3 hH3 ht3
  replace h_l := Sl.tr (Dw := False) h_l ht3
  replace hK := Tr.trans (Dw := False) hK ht3
  replace hB := Nat.le_trans hB ht3.ex.size
  replace hA := ht3.new
  replace hH : Hp w.heap.size A3 w3 (obMO (κ := ByteArray) MRf idxIn mb [] :: obC b_x [.slice none 0 0, .slice none 0 0, .slice none 0 0] 26 :: obC b_r [.slice none 0 0, .slice none 0 0, .slice none 0 0] 26 :: []) := Hp.moNew MRf idxIn hH3 (i := 0) rfl
  refine V_allocH (Dw := False) (B := w.heap.size) hH Tryz.zeroValue178 hB hA rfl ?_
  intro b_m w4 A4 hH4 ht4
  replace h_l := Sl.tr (Dw := False) h_l ht4
  replace hK := Tr.trans (Dw := False) hK ht4
  replace hB := Nat.le_trans hB ht4.ex.size
  replace hA := ht4.new
  refine V_storeC (Dw := False) (off := 0) (ds := [.map (some mb)]) hH4 (i := 0) rfl Tryz.sizeOf178 rfl (Nat.le_of_ble_eq_true rfl) (by exact (List.forall_mem_cons.2 ⟨rfl, (fun _ h => nomatch h)⟩)) rfl hB hA rfl rfl ?_
  intro w5 hH5 ht5
  replace h_l := Sl.tr (Dw := False) h_l ht5
  replace hK := Tr.trans (Dw := False) hK ht5
  replace hB := Nat.le_trans hB ht5.ex.size
  replace hA := ht5.new
  have hH6 := Hp.addNil (α := Int) (e := 3) (Hp.addNil (α := Int) (e := 3) hH5)
  replace hH : Hp w.heap.size A4 w5 (obC b_m [.map (some mb)] 178 :: obMO MRf idxIn mb ([] : List (ByteArray × List (Int × know_Posting))) :: obS (α := Int) 3 (.slice none 0 0) [] :: obS (α := Int) 3 (.slice none 0 0) [] :: obC b_x [.slice none 0 0, .slice none 0 0, .slice none 0 0] 26 :: obC b_r [.slice none 0 0, .slice none 0 0, .slice none 0 0] 26 :: []) := Hp.front (Hp.front hH6 (i := 3) rfl) (i := 3) rfl
  clear hH1 hH2 hH3 hH4 hH5 hH6
  refine V_to (fun _ _ => rfl) ?_
  refine C_seq ?_
  refine C_region ?_
  refine V_y (Y_makeFunc rfl rfl) rfl rfl rfl ?_
  refine V_y (Y_assign rfl) rfl rfl rfl ?_
  refine V_to (fun _ _ => rfl) ?_
  refine C_seq ?_
  refine C_seq ?_
  refine C_region ?_
  refine V_y (Y_move rfl) rfl rfl rfl ?_
  refine V_y (Y_lenSl h_l rfl Tryz.underlying22 rfl) rfl rfl rfl ?_
  refine V_y (Y_move rfl) rfl rfl rfl ?_
  refine V_to (fun _ _ => rfl) ?_
  have hnl := Sl.le h_l
  obtain ⟨o, ho, hm⟩ := Option.bind_eq_some_iff.1 hm
  refine C_cutG (ι := ((List Int × List Int × List (ByteArray × List (Int × know_Posting))) × Value × Value × (Nat → Prop))) (fun ⟨s, v1, v2, A'⟩ => [(2, .pointer (some ⟨b_r, 0, none⟩)), (3, .pointer (some ⟨b_x, 0, none⟩)), (4, .pointer (some ⟨b_m, 0, none⟩))]) (fun ⟨s, v1, v2, A'⟩ => fun w' => o = .fin s ∧ Hp w.heap.size A' w' (obC b_m [.map (some mb)] 178 :: obMO MRf idxIn mb s.2.2 :: obS (α := Int) 3 v2 s.2.1 :: obS (α := Int) 3 v1 s.1 :: obC b_x [v1, v2, .slice none 0 0] 26 :: obC b_r [.slice none 0 0, .slice none 0 0, .slice none 0 0] 26 :: []) ∧ Tr False w.heap.size A4 w5 A' w') ?_ ?_
  · refine C_block ?_
    refine C_range ho (fun k s a w' => ∃ i : (Value × Value × (Nat → Prop)), Has ⟨130, [], none⟩ a ([(2, .pointer (some ⟨b_r, 0, none⟩)), (3, .pointer (some ⟨b_x, 0, none⟩)), (4, .pointer (some ⟨b_m, 0, none⟩)), (5, .func (.func 80) #[] #[.pointer (some ⟨b_m, 0, none⟩)]), (23, v_l), (24, .int .i64 (l.length : Int)), (25, .int .i64 (k : Int))]) ∧ Hp w.heap.size i.2.2 w' (obC b_m [.map (some mb)] 178 :: obMO MRf idxIn mb s.2.2 :: obS (α := Int) 3 i.2.1 s.2.1 :: obS (α := Int) 3 i.1 s.1 :: obC b_x [i.1, i.2.1, .slice none 0 0] 26 :: obC b_r [.slice none 0 0, .slice none 0 0, .slice none 0 0] 26 :: []) ∧ Tr False w.heap.size A4 w5 i.2.2 w') (fun a ha => ⟨(.slice none 0 0, .slice none 0 0, A4), ha.sub ⟨rfl, rfl, rfl, rfl, rfl, rfl, rfl, trivial⟩, hH, Tr.refl (Dw := False) hA⟩) ?_
    rintro K k ⟨ids, sizes, at_⟩ a w6 ⟨⟨v1, v2, A6⟩, ha6, hH6, hr⟩ hle K6 hfin
    refine C_of ?_ ha6
    replace h_l := Sl.tr (Dw := False) h_l hr
    replace hB := Nat.le_trans hB hr.ex.size
    replace hA := hr.new
    replace hH : Hp w.heap.size A6 w6 (obC b_m [.map (some mb)] 178 :: obMO MRf idxIn mb at_ :: obS (α := Int) 3 v2 sizes :: obS (α := Int) 3 v1 ids :: obC b_x [v1, v2, .slice none 0 0] 26 :: obC b_r [.slice none 0 0, .slice none 0 0, .slice none 0 0] 26 :: []) := hH6
    refine C_seq (C_region (V_y (Y_lss rfl rfl) rfl rfl rfl (V_to (fun _ _ => rfl) ?_)))
    refine C_seq ?_
    refine C_cond rfl (fun hc => ?_) (fun hc => ?_)
    · have hlt := lt_of_dec hc
      obtain ⟨x, hx, hnx⟩ := K6 hlt
      unfold idxAtEntry at hx
      refine C_skip_to (fun _ _ => rfl) ?_
      refine C_seq ?_
      refine C_block ?_
      refine C_seq ?_
      refine C_region ?_
      obtain ⟨e, he, hx⟩ := Option.bind_eq_some_iff.1 hx
      refine V_indexAddr h_l he Tryz.underlying22 Tryz.sizeOf33 rfl rfl rfl ?_
      intro b7 o7 h7
      obtain ⟨h7a, _⟩ := El_know_Entry h7
      refine V_y (Y_loadA h7a Tryz.isAgg33 Tryz.sizeOf33 rfl) rfl rfl rfl ?_
      refine V_alloc Tryz.zeroValue33 rfl ?_
      intro b_v w8 h8
      refine V_storeNew h8 Tryz.sizeOf33 rfl rfl rfl rfl (by exact (List.forall_mem_cons.2 ⟨rfl, (List.forall_mem_cons.2 ⟨rfl, (List.forall_mem_cons.2 ⟨rfl, (fun _ h => nomatch h)⟩)⟩)⟩)) ?_
      intro w9 h9
      have hk9 := h9.kp (Dw := False)
      have h_v : El (α := know_Entry) A6 w9 b_v 0 e := h9.el hA ⟨[.int .i64 e.id_], _, rfl, rfl, ⟨[.string e.title], _, rfl, rfl, rfl⟩⟩
      have ht9 := Kp.tr (Dw := False) hk9 hA hB
      replace hH := Hp.kp (Dw := False) hH hk9
      replace h_l := Sl.tr (Dw := False) h_l ht9
      replace hr := Tr.trans (Dw := False) hr ht9
      replace hB := Nat.le_trans hB ht9.ex.size
      replace hA := ht9.new
      refine V_to (fun _ _ => rfl) ?_
      refine C_seq ?_
      refine C_region_ch (Dw := False) A6 8 [(1, 0), (1, 1), (1, 3), (1, 4), (2, 2), (2, 5), (1, 6), (1, 7)] Tryz_mixed (by kernel_rfl) (fun w10 hk10 => ?_)
      have ht10 := Kp.tr (Dw := False) hk10 hA hB
      replace hH := Hp.kp (Dw := False) hH hk10
      replace h_l := Sl.tr (Dw := False) h_l ht10
      replace h_v := El.tr (Dw := False) h_v ht10
      replace hr := Tr.trans (Dw := False) hr ht10
      replace hB := Nat.le_trans hB ht10.ex.size
      replace hA := ht10.new
      refine CH_q2 (Dw := False) rfl ?_
      have h_ti := El_know_Entry_1 h_v
      refine VQ_y (fun w' hw' => Y_fieldAddr Tryz.underlying33 rfl Tryz.sizeOf9 (by decide) rfl) rfl rfl rfl ?_
      refine VQ_CH (Dw := False) ?_
      refine CH_q2 (Dw := False) rfl ?_
      refine VQ_y (fun w' hw' => Y_load (El.str (El.keep h_ti (XA.ex hw'))) Tryz.isAgg9 rfl) rfl rfl rfl ?_
      refine VQ_CH (Dw := False) ?_
      refine CH_q2 (Dw := False) rfl ?_
      have h_bo := El_know_Entry_2 h_v
      refine VQ_y (fun w' hw' => Y_fieldAddr Tryz.underlying33 rfl Tryz.sizeOf9 (by decide) rfl) rfl rfl rfl ?_
      refine VQ_CH (Dw := False) ?_
      refine CH_q2 (Dw := False) rfl ?_
      refine VQ_y (fun w' hw' => Y_load (El.str (El.keep h_bo (XA.ex hw'))) Tryz.isAgg9 rfl) rfl rfl rfl ?_
      refine VQ_CH (Dw := False) ?_
      refine CH_l1 (Dw := False) (k := 0) rfl ?_
      obtain ⟨wa, hwa, hx⟩ := Option.bind_eq_some_iff.1 hx
      refine V_call Tryz.call67 rfl rfl rfl rfl (portref2_WordsOf_c (Dw := False) w10 hA e.title hwa) ?_
      rintro va w11 ⟨_, rfl, h11, hk11⟩
      obtain ⟨A11, ht11, hH11⟩ := Hp.addOwnd (Dw := False) hH hB hA hk11 h11
      replace h_l := Sl.tr (Dw := False) h_l ht11
      replace h_v := El.tr (Dw := False) h_v ht11
      replace h_ti := El.tr (Dw := False) h_ti ht11
      replace h_bo := El.tr (Dw := False) h_bo ht11
      replace hr := Tr.trans (Dw := False) hr ht11
      replace hB := Nat.le_trans hB ht11.ex.size
      replace hA := ht11.new
      refine V_CH (Dw := False) (hk11) ?_
      refine CH_l1 (Dw := False) (k := 0) rfl ?_
      obtain ⟨wb, hwb, hx⟩ := Option.bind_eq_some_iff.1 hx
      refine V_call Tryz.call67 rfl rfl rfl rfl (portref2_WordsOf_c (Dw := False) w11 hA e.body hwb) ?_
      rintro vb w12 ⟨_, rfl, h12, hk12⟩
      obtain ⟨A12, ht12, hH12⟩ := Hp.addOwnd (Dw := False) hH11 hB hA hk12 h12
      replace h_l := Sl.tr (Dw := False) h_l ht12
      replace h_v := El.tr (Dw := False) h_v ht12
      replace hr := Tr.trans (Dw := False) hr ht12
      replace hB := Nat.le_trans hB ht12.ex.size
      replace hA := ht12.new
      refine V_CH (Dw := False) (hk12) ?_
      refine CH_q2 (Dw := False) rfl ?_
      refine VQ_y (fun w' hw' => Y_assign rfl) rfl rfl rfl ?_
      refine VQ_CH (Dw := False) ?_
      refine CH_q2 (Dw := False) rfl ?_
      refine VQ_y (fun w' hw' => Y_assign rfl) rfl rfl rfl ?_
      refine VQ_CH (Dw := False) ?_
      refine CH_tail (Dw := False) ?_
      show V _ _ _ _ [] _ _
      refine V_to (fun _ _ => rfl) ?_
      obtain ⟨A13, ht13, h_b, hH13⟩ := Hp.freeze (Dw := False) hH12 (i := 0) rfl hA
      replace hr := Tr.trans (Dw := False) hr ht13
      replace hA := ht13.new
      replace h_l := Sl.tr (Dw := False) h_l ht13
      replace h_v := El.tr (Dw := False) h_v ht13
      obtain ⟨A14, ht14, h_a, hH14⟩ := Hp.freeze (Dw := False) hH13 (i := 0) rfl hA
      replace hr := Tr.trans (Dw := False) hr ht14
      replace hA := ht14.new
      replace h_l := Sl.tr (Dw := False) h_l ht14
      replace h_v := El.tr (Dw := False) h_v ht14
      replace h_b := Sl.tr (Dw := False) h_b ht14
      replace hH : Hp w.heap.size A14 w12 (obC b_m [.map (some mb)] 178 :: obMO MRf idxIn mb at_ :: obS (α := Int) 3 v2 sizes :: obS (α := Int) 3 v1 ids :: obC b_x [v1, v2, .slice none 0 0] 26 :: obC b_r [.slice none 0 0, .slice none 0 0, .slice none 0 0] 26 :: []) := hH14
      clear hH6 hH11 hH12 hH13 hH14
      obtain ⟨ids2, hids2, hx⟩ := Option.bind_eq_some_iff.1 hx
      obtain ⟨sizes2, hsizes2, hx⟩ := Option.bind_eq_some_iff.1 hx
      refine C_seq ?_
      refine C_cutG (ι := (Value × Value × (Nat → Prop))) (fun ⟨v17, v19, A19⟩ => [(2, .pointer (some ⟨b_r, 0, none⟩)), (3, .pointer (some ⟨b_x, 0, none⟩)), (4, .pointer (some ⟨b_m, 0, none⟩)), (5, .func (.func 80) #[] #[.pointer (some ⟨b_m, 0, none⟩)]), (23, v_l), (24, .int .i64 (l.length : Int)), (25, .int .i64 (k : Int)), (7, .pointer (some ⟨b_v, 0, none⟩)), (8, va), (9, vb)]) (fun ⟨v17, v19, A19⟩ => fun w' => Hp w.heap.size A19 w' (obC b_m [.map (some mb)] 178 :: obMO MRf idxIn mb at_ :: obS (α := Int) 3 v19 sizes2 :: obS (α := Int) 3 v17 ids2 :: obC b_x [v17, v19, .slice none 0 0] 26 :: obC b_r [.slice none 0 0, .slice none 0 0, .slice none 0 0] 26 :: []) ∧ Tr False w.heap.size A14 w12 A19 w') ?_ ?_
      · refine C_region_chy (Dw := False) (fun k => A14 k ∨ k = b_x) 13 [12, 9, 11, 8, 10] [(1, 0), (1, 1), (1, 2), (1, 3), (1, 6), (1, 7), (1, 8), (1, 9), (1, 10), (1, 11), (1, 12), (2, 4), (3, 5), (1, 15)] [(3, 14), (4, 16), (1, 17), (4, 18)] Tryz_mixed (by kernel_rfl) (fun w15 hk15 => ?_)
        have ht15 := Kp.tr (Dw := False) hk15 hA hB
        replace hH := Hp.kp (Dw := False) hH hk15
        replace h_v := El.tr (Dw := False) h_v ht15
        have hT : Tr False w.heap.size A14 w12 A14 w15 := ht15
        replace hB := Nat.le_trans hB ht15.ex.size
        replace hA := ht15.new
        have hX := hH
        refine CHZ_q2 (Dw := False) rfl ?_
        refine VQ_y (fun w' hw' => Y_fieldAddrC (off2 := 0) Tryz.underlying26 rfl Tryz.sizeOf23 (by decide) rfl rfl) rfl rfl rfl ?_
        refine VQ_CHZ (Dw := False) ?_
        refine CHZ_q2 (Dw := False) rfl ?_
        refine VQ_y (fun w' hw' => Y_load ((World.cell?_of_block (hw'.2 _ (World.block_lt_of_cell? _ _ (Hp.cell (j := 0) hH (i := 4) rfl rfl)) (Or.inr rfl))).trans (Hp.cell (j := 0) hH (i := 4) rfl rfl)) Tryz.isAgg23 rfl) rfl rfl rfl ?_
        refine VQ_CHZ (Dw := False) ?_
        refine CHZ_q2 (Dw := False) rfl ?_
        have h_id := El_know_Entry_0 h_v
        refine VQ_y (fun w' hw' => Y_fieldAddr Tryz.underlying33 rfl Tryz.sizeOf3 (by decide) rfl) rfl rfl rfl ?_
        refine VQ_CHZ (Dw := False) ?_
        refine CHZ_q2 (Dw := False) rfl ?_
        refine VQ_y (fun w' hw' => Y_load (El.int (El.keep h_id (XA.ex (XA.inl hw')))) Tryz.isAgg3 rfl) rfl rfl rfl ?_
        refine VQ_CHZ (Dw := False) ?_
        refine CHZ_q2 (Dw := False) rfl ?_
        refine VQ_y (fun w' hw' => Y_fieldAddrC (off2 := 1) Tryz.underlying26 rfl Tryz.sizeOf23 (by decide) rfl rfl) rfl rfl rfl ?_
        refine VQ_CHZ (Dw := False) ?_
        refine CHZ_q2 (Dw := False) rfl ?_
        refine VQ_y (fun w' hw' => Y_load ((World.cell?_of_block (hw'.2 _ (World.block_lt_of_cell? _ _ (Hp.cell (j := 1) hH (i := 4) rfl rfl)) (Or.inr rfl))).trans (Hp.cell (j := 1) hH (i := 4) rfl rfl)) Tryz.isAgg23 rfl) rfl rfl rfl ?_
        refine VQ_CHZ (Dw := False) ?_
        refine CHZ_q2 (Dw := False) rfl ?_
        refine VQ_y (fun w' hw' => Y_move rfl) rfl rfl rfl ?_
        refine VQ_CHZ (Dw := False) ?_
        refine CHZ_q2 (Dw := False) rfl ?_
        refine VQ_y (fun w' hw' => Y_lenSl h_a rfl Tryz.underlying73 rfl) rfl rfl rfl ?_
        refine VQ_CHZ (Dw := False) ?_
        refine CHZ_q2 (Dw := False) rfl ?_
        refine VQ_y (fun w' hw' => Y_move rfl) rfl rfl rfl ?_
        refine VQ_CHZ (Dw := False) ?_
        refine CHZ_q2 (Dw := False) rfl ?_
        refine VQ_y (fun w' hw' => Y_lenSl h_b rfl Tryz.underlying73 rfl) rfl rfl rfl ?_
        refine VQ_CHZ (Dw := False) ?_
        refine CHZ_q2 (Dw := False) rfl ?_
        refine VQ_y (fun w' hw' => Y_addI rfl rfl) rfl rfl rfl ?_
        refine VQ_CHZ (Dw := False) ?_
        refine CHZ_l1 (Dw := False) (k := 0) [(2, 13), (2, 4), (3, 5), (1, 15), (3, 14), (4, 16), (1, 17), (4, 18)] rfl ?_ rfl ?_
        · refine CH_l1 (Dw := False) (k := 0) rfl ?_
          refine V_buildSlice (Dw := False) (cells := #[.int .i64 (w64 ((wa.length : Int) + (wb.length : Int)))]) (l := ([w64 ((wa.length : Int) + (wb.length : Int))] : List Int)) (len := 1) Tryz.underlying23 Tryz.sizeOf3 Tryz.zeroValue3 rfl (by generalize (w64 ((wa.length : Int) + (wb.length : Int)) : Int) = z; kernel_rfl) (show (1 * 1 : Nat) ≠ 0 by decide) (show (1 * 1 : Nat) ≤ 2 ^ 24 by decide) hA ⟨[.int .i64 (w64 ((wa.length : Int) + (wb.length : Int)))], _, rfl, rfl, rfl⟩ rfl rfl ?_
          intro v18 w18 hk18 h18
          have ht18 := Kp.tr (Dw := False) hk18 hA hB
          replace hH := Hp.kp (Dw := False) hH hk18
          replace hT := Tr.trans (Dw := False) hT ht18
          replace hB := Nat.le_trans hB ht18.ex.size
          replace hA := ht18.new
          refine V_CH (Dw := False) (hk18) ?_
          refine CH_l1 (Dw := False) (k := 0) rfl ?_
          refine V_buildSlice (Dw := False) (l := ([e.id_] : List Int)) (len := 1) Tryz.underlying23 Tryz.sizeOf3 Tryz.zeroValue3 rfl (by with_unfolding_all rfl) (show (1 * 1 : Nat) ≠ 0 by decide) (show (1 * 1 : Nat) ≤ 2 ^ 24 by decide) hA ⟨[.int .i64 e.id_], _, rfl, rfl, rfl⟩ rfl rfl ?_
          intro v16 w16 hk16 h16
          have ht16 := Kp.tr (Dw := False) hk16 hA hB
          replace hH := Hp.kp (Dw := False) hH hk16
          replace h18 := Sl.tr (Dw := False) h18 ht16
          replace hT := Tr.trans (Dw := False) hT ht16
          replace hB := Nat.le_trans hB ht16.ex.size
          replace hA := ht16.new
          refine V_CH (Dw := False) (hk16) ?_
          refine CH_l1 (Dw := False) (k := 1) rfl ?_
          refine V_appendHs (Dw := False) (e := 3) (v := v1) (l := ids) (ti := Tryz.t3) (bytes := 8) (lim := 17592186044416) hH (i := 3) rfl h16 hids2 Tryz.underlying23 Tryz_info3 rfl rfl rfl rfl (by decide) (by decide) (by decide) hB hA rfl rfl rfl ?_
          intro v17 w17 A17 hH17 ht17 hs17
          replace h18 := Sl.tr (Dw := False) h18 ht17
          replace hT := Tr.trans (Dw := False) hT ht17
          replace hB := Nat.le_trans hB ht17.ex.size
          replace hA := ht17.new
          replace hH : Hp w.heap.size A17 w17 (obC b_m [.map (some mb)] 178 :: obMO MRf idxIn mb at_ :: obS (α := Int) 3 v2 sizes :: obS (α := Int) 3 v17 ids2 :: obC b_x [v1, v2, .slice none 0 0] 26 :: obC b_r [.slice none 0 0, .slice none 0 0, .slice none 0 0] 26 :: []) := hH17
          refine V_CHx (Dw := False) (XA.addS hs17 (Hp.ownOff (α := Int) (e := 3) (v := v1) (l := ids) hX (i := 3) rfl (j := 4) rfl (by decide))) ?_
          refine CH_q2 (Dw := False) rfl ?_
          refine VQ_y (fun w' hw' => Y_fieldAddrC (off2 := 0) Tryz.underlying26 rfl Tryz.sizeOf23 (by decide) rfl rfl) rfl rfl rfl ?_
          refine VQ_CH (Dw := False) ?_
          refine CH_l1 (Dw := False) (k := 1) rfl ?_
          refine V_appendHs (Dw := False) (e := 3) (v := v2) (l := sizes) (ti := Tryz.t3) (bytes := 8) (lim := 17592186044416) hH (i := 2) rfl h18 hsizes2 Tryz.underlying23 Tryz_info3 rfl rfl rfl rfl (by decide) (by decide) (by decide) hB hA rfl rfl rfl ?_
          intro v19 w19 A19 hH19 ht19 hs19
          replace hT := Tr.trans (Dw := False) hT ht19
          replace hB := Nat.le_trans hB ht19.ex.size
          replace hA := ht19.new
          replace hH : Hp w.heap.size A19 w19 (obC b_m [.map (some mb)] 178 :: obMO MRf idxIn mb at_ :: obS (α := Int) 3 v19 sizes2 :: obS (α := Int) 3 v17 ids2 :: obC b_x [v1, v2, .slice none 0 0] 26 :: obC b_r [.slice none 0 0, .slice none 0 0, .slice none 0 0] 26 :: []) := hH19
          refine V_CHx (Dw := False) (XA.addS hs19 (Hp.ownOff (α := Int) (e := 3) (v := v2) (l := sizes) hX (i := 2) rfl (j := 4) rfl (by decide))) ?_
          refine CH_l1 (Dw := False) (k := 2) rfl ?_
          have one17 : v17.oneCell' = true := by obtain ⟨_, _, e, _⟩ := Hp.form hH (i := 3) rfl; rw [e]; rfl
          refine V_storeC (Dw := False) (off := 0) (ds := [v17, v2, .slice none 0 0]) hH (i := 4) rfl Tryz.sizeOf23 (cells_of_one one17) (Nat.le_of_ble_eq_true rfl) (cells_all_one one17) (by rw [Value.cells_one one17]; rfl) hB hA rfl rfl ?_
          intro w20 hH20 ht20
          replace hT := Tr.trans (Dw := False) hT ht20
          replace hB := Nat.le_trans hB ht20.ex.size
          replace hA := ht20.new
          replace hH : Hp w.heap.size A19 w20 (obC b_m [.map (some mb)] 178 :: obMO MRf idxIn mb at_ :: obS (α := Int) 3 v19 sizes2 :: obS (α := Int) 3 v17 ids2 :: obC b_x [v17, v2, .slice none 0 0] 26 :: obC b_r [.slice none 0 0, .slice none 0 0, .slice none 0 0] 26 :: []) := hH20
          refine V_CHw (Dw := False) ?_
          refine CH_q2 (Dw := False) rfl ?_
          refine VQ_y (fun w' hw' => Y_fieldAddrC (off2 := 1) Tryz.underlying26 rfl Tryz.sizeOf23 (by decide) rfl rfl) rfl rfl rfl ?_
          refine VQ_CH (Dw := False) ?_
          refine CH_l1 (Dw := False) (k := 2) rfl ?_
          have one19 : v19.oneCell' = true := by obtain ⟨_, _, e, _⟩ := Hp.form hH (i := 2) rfl; rw [e]; rfl
          refine V_storeC (Dw := False) (off := 1) (ds := [v17, v19, .slice none 0 0]) hH (i := 4) rfl Tryz.sizeOf23 (cells_of_one one19) (Nat.le_of_ble_eq_true rfl) (cells_all_one one19) (by rw [Value.cells_one one19]; rfl) hB hA rfl rfl ?_
          intro w21 hH21 ht21
          replace hT := Tr.trans (Dw := False) hT ht21
          replace hB := Nat.le_trans hB ht21.ex.size
          replace hA := ht21.new
          replace hH : Hp w.heap.size A19 w21 (obC b_m [.map (some mb)] 178 :: obMO MRf idxIn mb at_ :: obS (α := Int) 3 v19 sizes2 :: obS (α := Int) 3 v17 ids2 :: obC b_x [v17, v19, .slice none 0 0] 26 :: obC b_r [.slice none 0 0, .slice none 0 0, .slice none 0 0] 26 :: []) := hH21
          refine V_CHw (Dw := False) ?_
          refine CH_tail (Dw := False) ?_
          show V _ _ _ _ [] _ _
          exact V_end fun a ha => ⟨(v17, v19, A19), ha.sub ⟨rfl, rfl, rfl, rfl, rfl, rfl, rfl, rfl, rfl, rfl, trivial⟩, hH, hT⟩
        refine V_buildSlice (Dw := False) (l := ([e.id_] : List Int)) (len := 1) Tryz.underlying23 Tryz.sizeOf3 Tryz.zeroValue3 rfl (by with_unfolding_all rfl) (show (1 * 1 : Nat) ≠ 0 by decide) (show (1 * 1 : Nat) ≤ 2 ^ 24 by decide) hA ⟨[.int .i64 e.id_], _, rfl, rfl, rfl⟩ rfl rfl ?_
        intro v16 w16 hk16 h16
        have ht16 := Kp.tr (Dw := False) hk16 hA hB
        replace hH := Hp.kp (Dw := False) hH hk16
        replace hT := Tr.trans (Dw := False) hT ht16
        replace hB := Nat.le_trans hB ht16.ex.size
        replace hA := ht16.new
        refine V_CHZ (Dw := False) (hk16) ?_
        refine CHZ_l1 (Dw := False) (k := 1) [(2, 13), (3, 5), (1, 15), (3, 14), (4, 16), (1, 17), (4, 18)] rfl ?_ rfl ?_
        · refine CH_l1 (Dw := False) (k := 0) rfl ?_
          refine V_buildSlice (Dw := False) (cells := #[.int .i64 (w64 ((wa.length : Int) + (wb.length : Int)))]) (l := ([w64 ((wa.length : Int) + (wb.length : Int))] : List Int)) (len := 1) Tryz.underlying23 Tryz.sizeOf3 Tryz.zeroValue3 rfl (by generalize (w64 ((wa.length : Int) + (wb.length : Int)) : Int) = z; kernel_rfl) (show (1 * 1 : Nat) ≠ 0 by decide) (show (1 * 1 : Nat) ≤ 2 ^ 24 by decide) hA ⟨[.int .i64 (w64 ((wa.length : Int) + (wb.length : Int)))], _, rfl, rfl, rfl⟩ rfl rfl ?_
          intro v18 w18 hk18 h18
          have ht18 := Kp.tr (Dw := False) hk18 hA hB
          replace hH := Hp.kp (Dw := False) hH hk18
          replace h16 := Sl.tr (Dw := False) h16 ht18
          replace hT := Tr.trans (Dw := False) hT ht18
          replace hB := Nat.le_trans hB ht18.ex.size
          replace hA := ht18.new
          refine V_CH (Dw := False) (hk18) ?_
          refine CH_l1 (Dw := False) (k := 1) rfl ?_
          refine V_appendHs (Dw := False) (e := 3) (v := v1) (l := ids) (ti := Tryz.t3) (bytes := 8) (lim := 17592186044416) hH (i := 3) rfl h16 hids2 Tryz.underlying23 Tryz_info3 rfl rfl rfl rfl (by decide) (by decide) (by decide) hB hA rfl rfl rfl ?_
          intro v17 w17 A17 hH17 ht17 hs17
          replace h18 := Sl.tr (Dw := False) h18 ht17
          replace hT := Tr.trans (Dw := False) hT ht17
          replace hB := Nat.le_trans hB ht17.ex.size
          replace hA := ht17.new
          replace hH : Hp w.heap.size A17 w17 (obC b_m [.map (some mb)] 178 :: obMO MRf idxIn mb at_ :: obS (α := Int) 3 v2 sizes :: obS (α := Int) 3 v17 ids2 :: obC b_x [v1, v2, .slice none 0 0] 26 :: obC b_r [.slice none 0 0, .slice none 0 0, .slice none 0 0] 26 :: []) := hH17
          refine V_CHx (Dw := False) (XA.addS hs17 (Hp.ownOff (α := Int) (e := 3) (v := v1) (l := ids) hX (i := 3) rfl (j := 4) rfl (by decide))) ?_
          refine CH_q2 (Dw := False) rfl ?_
          refine VQ_y (fun w' hw' => Y_fieldAddrC (off2 := 0) Tryz.underlying26 rfl Tryz.sizeOf23 (by decide) rfl rfl) rfl rfl rfl ?_
          refine VQ_CH (Dw := False) ?_
          refine CH_l1 (Dw := False) (k := 1) rfl ?_
          refine V_appendHs (Dw := False) (e := 3) (v := v2) (l := sizes) (ti := Tryz.t3) (bytes := 8) (lim := 17592186044416) hH (i := 2) rfl h18 hsizes2 Tryz.underlying23 Tryz_info3 rfl rfl rfl rfl (by decide) (by decide) (by decide) hB hA rfl rfl rfl ?_
          intro v19 w19 A19 hH19 ht19 hs19
          replace hT := Tr.trans (Dw := False) hT ht19
          replace hB := Nat.le_trans hB ht19.ex.size
          replace hA := ht19.new
          replace hH : Hp w.heap.size A19 w19 (obC b_m [.map (some mb)] 178 :: obMO MRf idxIn mb at_ :: obS (α := Int) 3 v19 sizes2 :: obS (α := Int) 3 v17 ids2 :: obC b_x [v1, v2, .slice none 0 0] 26 :: obC b_r [.slice none 0 0, .slice none 0 0, .slice none 0 0] 26 :: []) := hH19
          refine V_CHx (Dw := False) (XA.addS hs19 (Hp.ownOff (α := Int) (e := 3) (v := v2) (l := sizes) hX (i := 2) rfl (j := 4) rfl (by decide))) ?_
          refine CH_l1 (Dw := False) (k := 2) rfl ?_
          have one17 : v17.oneCell' = true := by obtain ⟨_, _, e, _⟩ := Hp.form hH (i := 3) rfl; rw [e]; rfl
          refine V_storeC (Dw := False) (off := 0) (ds := [v17, v2, .slice none 0 0]) hH (i := 4) rfl Tryz.sizeOf23 (cells_of_one one17) (Nat.le_of_ble_eq_true rfl) (cells_all_one one17) (by rw [Value.cells_one one17]; rfl) hB hA rfl rfl ?_
          intro w20 hH20 ht20
          replace hT := Tr.trans (Dw := False) hT ht20
          replace hB := Nat.le_trans hB ht20.ex.size
          replace hA := ht20.new
          replace hH : Hp w.heap.size A19 w20 (obC b_m [.map (some mb)] 178 :: obMO MRf idxIn mb at_ :: obS (α := Int) 3 v19 sizes2 :: obS (α := Int) 3 v17 ids2 :: obC b_x [v17, v2, .slice none 0 0] 26 :: obC b_r [.slice none 0 0, .slice none 0 0, .slice none 0 0] 26 :: []) := hH20
          refine V_CHw (Dw := False) ?_
          refine CH_q2 (Dw := False) rfl ?_
          refine VQ_y (fun w' hw' => Y_fieldAddrC (off2 := 1) Tryz.underlying26 rfl Tryz.sizeOf23 (by decide) rfl rfl) rfl rfl rfl ?_
          refine VQ_CH (Dw := False) ?_
          refine CH_l1 (Dw := False) (k := 2) rfl ?_
          have one19 : v19.oneCell' = true := by obtain ⟨_, _, e, _⟩ := Hp.form hH (i := 2) rfl; rw [e]; rfl
          refine V_storeC (Dw := False) (off := 1) (ds := [v17, v19, .slice none 0 0]) hH (i := 4) rfl Tryz.sizeOf23 (cells_of_one one19) (Nat.le_of_ble_eq_true rfl) (cells_all_one one19) (by rw [Value.cells_one one19]; rfl) hB hA rfl rfl ?_
          intro w21 hH21 ht21
          replace hT := Tr.trans (Dw := False) hT ht21
          replace hB := Nat.le_trans hB ht21.ex.size
          replace hA := ht21.new
          replace hH : Hp w.heap.size A19 w21 (obC b_m [.map (some mb)] 178 :: obMO MRf idxIn mb at_ :: obS (α := Int) 3 v19 sizes2 :: obS (α := Int) 3 v17 ids2 :: obC b_x [v17, v19, .slice none 0 0] 26 :: obC b_r [.slice none 0 0, .slice none 0 0, .slice none 0 0] 26 :: []) := hH21
          refine V_CHw (Dw := False) ?_
          refine CH_tail (Dw := False) ?_
          show V _ _ _ _ [] _ _
          exact V_end fun a ha => ⟨(v17, v19, A19), ha.sub ⟨rfl, rfl, rfl, rfl, rfl, rfl, rfl, rfl, rfl, rfl, trivial⟩, hH, hT⟩
        refine V_appendHs (Dw := False) (e := 3) (v := v1) (l := ids) (ti := Tryz.t3) (bytes := 8) (lim := 17592186044416) hH (i := 3) rfl h16 hids2 Tryz.underlying23 Tryz_info3 rfl rfl rfl rfl (by decide) (by decide) (by decide) hB hA rfl rfl rfl ?_
        intro v17 w17 A17 hH17 ht17 hs17
        replace hT := Tr.trans (Dw := False) hT ht17
        replace hB := Nat.le_trans hB ht17.ex.size
        replace hA := ht17.new
        replace hH : Hp w.heap.size A17 w17 (obC b_m [.map (some mb)] 178 :: obMO MRf idxIn mb at_ :: obS (α := Int) 3 v2 sizes :: obS (α := Int) 3 v17 ids2 :: obC b_x [v1, v2, .slice none 0 0] 26 :: obC b_r [.slice none 0 0, .slice none 0 0, .slice none 0 0] 26 :: []) := hH17
        refine V_CHZx (Dw := False) (XA.addS hs17 (Hp.ownOff (α := Int) (e := 3) (v := v1) (l := ids) hX (i := 3) rfl (j := 4) rfl (by decide))) ?_
        refine CHZ_q2 (Dw := False) rfl ?_
        refine VQ_y (fun w' hw' => Y_fieldAddrC (off2 := 0) Tryz.underlying26 rfl Tryz.sizeOf23 (by decide) rfl rfl) rfl rfl rfl ?_
        refine VQ_CHZ (Dw := False) ?_
        refine CHZ_nil (Dw := False) ?_
        refine CH_l1 (Dw := False) (k := 0) rfl ?_
        refine V_buildSlice (Dw := False) (cells := #[.int .i64 (w64 ((wa.length : Int) + (wb.length : Int)))]) (l := ([w64 ((wa.length : Int) + (wb.length : Int))] : List Int)) (len := 1) Tryz.underlying23 Tryz.sizeOf3 Tryz.zeroValue3 rfl (by generalize (w64 ((wa.length : Int) + (wb.length : Int)) : Int) = z; kernel_rfl) (show (1 * 1 : Nat) ≠ 0 by decide) (show (1 * 1 : Nat) ≤ 2 ^ 24 by decide) hA ⟨[.int .i64 (w64 ((wa.length : Int) + (wb.length : Int)))], _, rfl, rfl, rfl⟩ rfl rfl ?_
        intro v18 w18 hk18 h18
        have ht18 := Kp.tr (Dw := False) hk18 hA hB
        replace hH := Hp.kp (Dw := False) hH hk18
        replace hT := Tr.trans (Dw := False) hT ht18
        replace hB := Nat.le_trans hB ht18.ex.size
        replace hA := ht18.new
        refine V_CH (Dw := False) (hk18) ?_
        refine CH_l1 (Dw := False) (k := 1) rfl ?_
        refine V_appendHs (Dw := False) (e := 3) (v := v2) (l := sizes) (ti := Tryz.t3) (bytes := 8) (lim := 17592186044416) hH (i := 2) rfl h18 hsizes2 Tryz.underlying23 Tryz_info3 rfl rfl rfl rfl (by decide) (by decide) (by decide) hB hA rfl rfl rfl ?_
        intro v19 w19 A19 hH19 ht19 hs19
        replace hT := Tr.trans (Dw := False) hT ht19
        replace hB := Nat.le_trans hB ht19.ex.size
        replace hA := ht19.new
        replace hH : Hp w.heap.size A19 w19 (obC b_m [.map (some mb)] 178 :: obMO MRf idxIn mb at_ :: obS (α := Int) 3 v19 sizes2 :: obS (α := Int) 3 v17 ids2 :: obC b_x [v1, v2, .slice none 0 0] 26 :: obC b_r [.slice none 0 0, .slice none 0 0, .slice none 0 0] 26 :: []) := hH19
        refine V_CHx (Dw := False) (XA.addS hs19 (Hp.ownOff (α := Int) (e := 3) (v := v2) (l := sizes) hX (i := 2) rfl (j := 4) rfl (by decide))) ?_
        refine CH_l1 (Dw := False) (k := 2) rfl ?_
        have one17 : v17.oneCell' = true := by obtain ⟨_, _, e, _⟩ := Hp.form hH (i := 3) rfl; rw [e]; rfl
        refine V_storeC (Dw := False) (off := 0) (ds := [v17, v2, .slice none 0 0]) hH (i := 4) rfl Tryz.sizeOf23 (cells_of_one one17) (Nat.le_of_ble_eq_true rfl) (cells_all_one one17) (by rw [Value.cells_one one17]; rfl) hB hA rfl rfl ?_
        intro w20 hH20 ht20
        replace hT := Tr.trans (Dw := False) hT ht20
        replace hB := Nat.le_trans hB ht20.ex.size
        replace hA := ht20.new
        replace hH : Hp w.heap.size A19 w20 (obC b_m [.map (some mb)] 178 :: obMO MRf idxIn mb at_ :: obS (α := Int) 3 v19 sizes2 :: obS (α := Int) 3 v17 ids2 :: obC b_x [v17, v2, .slice none 0 0] 26 :: obC b_r [.slice none 0 0, .slice none 0 0, .slice none 0 0] 26 :: []) := hH20
        refine V_CHw (Dw := False) ?_
        refine CH_q2 (Dw := False) rfl ?_
        refine VQ_y (fun w' hw' => Y_fieldAddrC (off2 := 1) Tryz.underlying26 rfl Tryz.sizeOf23 (by decide) rfl rfl) rfl rfl rfl ?_
        refine VQ_CH (Dw := False) ?_
        refine CH_l1 (Dw := False) (k := 2) rfl ?_
        have one19 : v19.oneCell' = true := by obtain ⟨_, _, e, _⟩ := Hp.form hH (i := 2) rfl; rw [e]; rfl
        refine V_storeC (Dw := False) (off := 1) (ds := [v17, v19, .slice none 0 0]) hH (i := 4) rfl Tryz.sizeOf23 (cells_of_one one19) (Nat.le_of_ble_eq_true rfl) (cells_all_one one19) (by rw [Value.cells_one one19]; rfl) hB hA rfl rfl ?_
        intro w21 hH21 ht21
        replace hT := Tr.trans (Dw := False) hT ht21
        replace hB := Nat.le_trans hB ht21.ex.size
        replace hA := ht21.new
        replace hH : Hp w.heap.size A19 w21 (obC b_m [.map (some mb)] 178 :: obMO MRf idxIn mb at_ :: obS (α := Int) 3 v19 sizes2 :: obS (α := Int) 3 v17 ids2 :: obC b_x [v17, v19, .slice none 0 0] 26 :: obC b_r [.slice none 0 0, .slice none 0 0, .slice none 0 0] 26 :: []) := hH21
        refine V_CHw (Dw := False) ?_
        refine CH_tail (Dw := False) ?_
        show V _ _ _ _ [] _ _
        exact V_end fun a ha => ⟨(v17, v19, A19), ha.sub ⟨rfl, rfl, rfl, rfl, rfl, rfl, rfl, rfl, rfl, rfl, trivial⟩, hH, hT⟩
      rintro ⟨v17, v19, A19⟩ w21 ⟨hH21, ht21⟩ a21 ha21
      replace h_l := Sl.tr (Dw := False) h_l ht21
      replace h_v := El.tr (Dw := False) h_v ht21
      replace h_a := Sl.tr (Dw := False) h_a ht21
      replace h_b := Sl.tr (Dw := False) h_b ht21
      replace hr := Tr.trans (Dw := False) hr ht21
      replace hB := Nat.le_trans hB ht21.ex.size
      replace hA := ht21.new
      replace hH : Hp w.heap.size A19 w21 (obC b_m [.map (some mb)] 178 :: obMO MRf idxIn mb at_ :: obS (α := Int) 3 v19 sizes2 :: obS (α := Int) 3 v17 ids2 :: obC b_x [v17, v19, .slice none 0 0] 26 :: obC b_r [.slice none 0 0, .slice none 0 0, .slice none 0 0] 26 :: []) := hH21
      refine C_at (n := ⟨130, [], none⟩) (fun _ _ => rfl) ?_ ha21
      refine C_seq ?_
      refine C_seq ?_
      refine C_region ?_
      refine V_y (Y_move rfl) rfl rfl rfl ?_
      refine V_y (Y_lenSl h_a rfl Tryz.underlying73 rfl) rfl rfl rfl ?_
      refine V_y (Y_move rfl) rfl rfl rfl ?_
      refine V_to (fun _ _ => rfl) ?_
      have hnwa := Sl.le h_a
      obtain ⟨o1, ho1, hx⟩ := Option.bind_eq_some_iff.1 hx
      refine C_cutG (ι := (List (ByteArray × List (Int × know_Posting)) × (Nat → Prop))) (fun ⟨s, A'⟩ => [(2, .pointer (some ⟨b_r, 0, none⟩)), (3, .pointer (some ⟨b_x, 0, none⟩)), (4, .pointer (some ⟨b_m, 0, none⟩)), (5, .func (.func 80) #[] #[.pointer (some ⟨b_m, 0, none⟩)]), (23, v_l), (24, .int .i64 (l.length : Int)), (25, .int .i64 (k : Int)), (7, .pointer (some ⟨b_v, 0, none⟩)), (9, vb)]) (fun ⟨s, A'⟩ => fun w' => o1 = .fin s ∧ Hp w.heap.size A' w' (obC b_m [.map (some mb)] 178 :: obMO MRf idxIn mb s :: obS (α := Int) 3 v19 sizes2 :: obS (α := Int) 3 v17 ids2 :: obC b_x [v17, v19, .slice none 0 0] 26 :: obC b_r [.slice none 0 0, .slice none 0 0, .slice none 0 0] 26 :: []) ∧ Tr False w.heap.size A19 w21 A' w') ?_ ?_
      · refine C_block ?_
        refine C_range ho1 (fun k2 s a w' => ∃ i : (Nat → Prop), Has ⟨130, [], none⟩ a ([(2, .pointer (some ⟨b_r, 0, none⟩)), (3, .pointer (some ⟨b_x, 0, none⟩)), (4, .pointer (some ⟨b_m, 0, none⟩)), (5, .func (.func 80) #[] #[.pointer (some ⟨b_m, 0, none⟩)]), (23, v_l), (24, .int .i64 (l.length : Int)), (25, .int .i64 (k : Int)), (7, .pointer (some ⟨b_v, 0, none⟩)), (9, vb), (52, va), (53, .int .i64 (wa.length : Int)), (54, .int .i64 (k2 : Int))]) ∧ Hp w.heap.size i w' (obC b_m [.map (some mb)] 178 :: obMO MRf idxIn mb s :: obS (α := Int) 3 v19 sizes2 :: obS (α := Int) 3 v17 ids2 :: obC b_x [v17, v19, .slice none 0 0] 26 :: obC b_r [.slice none 0 0, .slice none 0 0, .slice none 0 0] 26 :: []) ∧ Tr False w.heap.size A19 w21 i w') (fun a ha => ⟨A19, ha.sub ⟨rfl, rfl, rfl, rfl, rfl, rfl, rfl, rfl, rfl, rfl, rfl, rfl, trivial⟩, hH, Tr.refl (Dw := False) hA⟩) ?_
        rintro K2 k2 s a w22 ⟨A22, ha22, hH22, hr2⟩ hle2 K22 hfin2
        refine C_of ?_ ha22
        replace h_a := Sl.tr (Dw := False) h_a hr2
        replace h_v := El.tr (Dw := False) h_v hr2
        replace hB := Nat.le_trans hB hr2.ex.size
        replace hA := hr2.new
        replace hH : Hp w.heap.size A22 w22 (obC b_m [.map (some mb)] 178 :: obMO MRf idxIn mb s :: obS (α := Int) 3 v19 sizes2 :: obS (α := Int) 3 v17 ids2 :: obC b_x [v17, v19, .slice none 0 0] 26 :: obC b_r [.slice none 0 0, .slice none 0 0, .slice none 0 0] 26 :: []) := hH22
        refine C_seq (C_region (V_y (Y_lss rfl rfl) rfl rfl rfl (V_to (fun _ _ => rfl) ?_)))
        refine C_seq ?_
        refine C_cond rfl (fun hc2 => ?_) (fun hc2 => ?_)
        · have hlt2 := lt_of_dec hc2
          obtain ⟨x2, hx2, hnx2⟩ := K22 hlt2
          unfold idxAtWord at hx2
          refine C_skip_to (fun _ _ => rfl) ?_
          refine C_seq ?_
          refine C_block ?_
          refine C_seq ?_
          refine C_region ?_
          refine V_y (Y_move rfl) rfl rfl rfl ?_
          obtain ⟨wd, hwd, hx2⟩ := Option.bind_eq_some_iff.1 hx2
          refine V_indexAddr h_a hwd Tryz.underlying73 Tryz.sizeOf9 rfl rfl rfl ?_
          intro b23 o23 h23
          refine V_y (Y_load (El.str h23) Tryz.isAgg9 rfl) rfl rfl rfl ?_
          refine V_y (Y_assign rfl) rfl rfl rfl ?_
          refine V_y (Y_assign rfl) rfl rfl rfl ?_
          refine V_to (fun _ _ => rfl) ?_
          refine C_region_qt (Dw := False) 6 Tryz_mixed (by kernel_rfl) ?_
          simp only [List.take, List.drop]
          refine VQ_y (fun w' hw' => Y_move rfl) rfl rfl rfl ?_
          refine VQ_y (fun w' hw' => Y_move rfl) rfl rfl rfl ?_
          obtain ⟨t, hst, hx2⟩ := Option.bind_eq_some_iff.1 hx2
          refine VQ_call (.string t) Tryz.call81 rfl rfl rfl rfl (fun w' hw' => (portref2_StemOf_c w' (fun b hb => hA b (Nat.le_trans hw'.size hb)) wd hst).mono (fun _ _ h => ⟨h.1, Kp.trans (Dw := False) hw' h.2⟩)) ?_
          have h_id2 := El_know_Entry_0 h_v
          refine VQ_y (fun w' hw' => Y_fieldAddr Tryz.underlying33 rfl Tryz.sizeOf3 (by decide) rfl) rfl rfl rfl ?_
          refine VQ_y (fun w' hw' => Y_load (El.int (El.kp (Dw := False) h_id2 hw')) Tryz.isAgg3 rfl) rfl rfl rfl ?_
          refine VQ_y (fun w' hw' => Y_move rfl) rfl rfl rfl ?_
          refine VQ_tail (fun w24 hk24 => ?_)
          try simp only [List.take, List.drop]
          have ht24 := Kp.tr (Dw := False) hk24 hA hB
          replace hH := Hp.kp (Dw := False) hH hk24
          replace hr2 := Tr.trans (Dw := False) hr2 ht24
          replace hB := Nat.le_trans hB ht24.ex.size
          replace hA := ht24.new
          obtain ⟨m3, hm3, hx2⟩ := Option.bind_eq_some_iff.1 hx2
          refine V_call Tryz.call80 rfl rfl rfl rfl (portref2_indexOf_put_c w24 hB hA t e.id_ (k2 : Int) true b_m mb s hH hm3) ?_
          rintro _ w25 ⟨A25, rfl, hH25, ht25⟩
          replace hr2 := Tr.trans (Dw := False) hr2 ht25
          refine V_to (fun _ _ => rfl) ?_
          refine C_region ?_
          refine V_y (Y_addI rfl rfl) rfl rfl rfl ?_
          refine V_y (Y_move rfl) rfl rfl rfl ?_
          obtain rfl := Option.some.inj hx2
          refine V_end (fun a ha => ?_)
          exact ⟨m3, hlt2, hnx2, ⟨A25, ha.sub ⟨rfl, rfl, rfl, rfl, rfl, rfl, rfl, rfl, rfl, rfl, rfl, (congrArg (fun z => some (Value.int .i64 z)) (w64_succ hlt2 hnwa)), trivial⟩, hH25, hr2⟩⟩
        · refine C_exit (fun a ha => ?_)
          exact ⟨(s, A22), ha.sub ⟨rfl, rfl, rfl, rfl, rfl, rfl, rfl, rfl, rfl, trivial⟩, ⟨(hfin2 (eq_of_dec hle2 hc2)).symm, hH, hr2⟩⟩
      rintro ⟨m1, A30⟩ w30 ⟨rfl, hH30, ht30⟩ a ha30
      rw [Lp.andThen_fin] at hx
      replace h_l := Sl.tr (Dw := False) h_l ht30
      replace h_v := El.tr (Dw := False) h_v ht30
      replace h_a := Sl.tr (Dw := False) h_a ht30
      replace h_b := Sl.tr (Dw := False) h_b ht30
      replace hr := Tr.trans (Dw := False) hr ht30
      replace hB := Nat.le_trans hB ht30.ex.size
      replace hA := ht30.new
      replace hH : Hp w.heap.size A30 w30 (obC b_m [.map (some mb)] 178 :: obMO MRf idxIn mb m1 :: obS (α := Int) 3 v19 sizes2 :: obS (α := Int) 3 v17 ids2 :: obC b_x [v17, v19, .slice none 0 0] 26 :: obC b_r [.slice none 0 0, .slice none 0 0, .slice none 0 0] 26 :: []) := hH30
      refine C_at (n := ⟨130, [], none⟩) (fun _ _ => rfl) ?_ ha30
      refine C_seq ?_
      refine C_region ?_
      refine V_y (Y_move rfl) rfl rfl rfl ?_
      refine V_y (Y_lenSl h_b rfl Tryz.underlying73 rfl) rfl rfl rfl ?_
      refine V_y (Y_move rfl) rfl rfl rfl ?_
      refine V_to (fun _ _ => rfl) ?_
      have hnwb := Sl.le h_b
      obtain ⟨o2, ho2, hx⟩ := Option.bind_eq_some_iff.1 hx
      refine C_cutG (ι := (List (ByteArray × List (Int × know_Posting)) × (Nat → Prop))) (fun ⟨s, A'⟩ => [(2, .pointer (some ⟨b_r, 0, none⟩)), (3, .pointer (some ⟨b_x, 0, none⟩)), (4, .pointer (some ⟨b_m, 0, none⟩)), (5, .func (.func 80) #[] #[.pointer (some ⟨b_m, 0, none⟩)]), (23, v_l), (24, .int .i64 (l.length : Int)), (25, .int .i64 (k : Int)), (7, .pointer (some ⟨b_v, 0, none⟩))]) (fun ⟨s, A'⟩ => fun w' => o2 = .fin s ∧ Hp w.heap.size A' w' (obC b_m [.map (some mb)] 178 :: obMO MRf idxIn mb s :: obS (α := Int) 3 v19 sizes2 :: obS (α := Int) 3 v17 ids2 :: obC b_x [v17, v19, .slice none 0 0] 26 :: obC b_r [.slice none 0 0, .slice none 0 0, .slice none 0 0] 26 :: []) ∧ Tr False w.heap.size A30 w30 A' w') ?_ ?_
      · refine C_block ?_
        refine C_range ho2 (fun k2 s a w' => ∃ i : (Nat → Prop), Has ⟨130, [], none⟩ a ([(2, .pointer (some ⟨b_r, 0, none⟩)), (3, .pointer (some ⟨b_x, 0, none⟩)), (4, .pointer (some ⟨b_m, 0, none⟩)), (5, .func (.func 80) #[] #[.pointer (some ⟨b_m, 0, none⟩)]), (23, v_l), (24, .int .i64 (l.length : Int)), (25, .int .i64 (k : Int)), (7, .pointer (some ⟨b_v, 0, none⟩)), (67, vb), (68, .int .i64 (wb.length : Int)), (69, .int .i64 (k2 : Int))]) ∧ Hp w.heap.size i w' (obC b_m [.map (some mb)] 178 :: obMO MRf idxIn mb s :: obS (α := Int) 3 v19 sizes2 :: obS (α := Int) 3 v17 ids2 :: obC b_x [v17, v19, .slice none 0 0] 26 :: obC b_r [.slice none 0 0, .slice none 0 0, .slice none 0 0] 26 :: []) ∧ Tr False w.heap.size A30 w30 i w') (fun a ha => ⟨A30, ha.sub ⟨rfl, rfl, rfl, rfl, rfl, rfl, rfl, rfl, rfl, rfl, rfl, trivial⟩, hH, Tr.refl (Dw := False) hA⟩) ?_
        rintro K2 k2 s a w22 ⟨A22, ha22, hH22, hr2⟩ hle2 K22 hfin2
        refine C_of ?_ ha22
        replace h_b := Sl.tr (Dw := False) h_b hr2
        replace h_v := El.tr (Dw := False) h_v hr2
        replace hB := Nat.le_trans hB hr2.ex.size
        replace hA := hr2.new
        replace hH : Hp w.heap.size A22 w22 (obC b_m [.map (some mb)] 178 :: obMO MRf idxIn mb s :: obS (α := Int) 3 v19 sizes2 :: obS (α := Int) 3 v17 ids2 :: obC b_x [v17, v19, .slice none 0 0] 26 :: obC b_r [.slice none 0 0, .slice none 0 0, .slice none 0 0] 26 :: []) := hH22
        refine C_seq (C_region (V_y (Y_lss rfl rfl) rfl rfl rfl (V_to (fun _ _ => rfl) ?_)))
        refine C_seq ?_
        refine C_cond rfl (fun hc2 => ?_) (fun hc2 => ?_)
        · have hlt2 := lt_of_dec hc2
          obtain ⟨x2, hx2, hnx2⟩ := K22 hlt2
          unfold idxAtWord at hx2
          refine C_skip_to (fun _ _ => rfl) ?_
          refine C_seq ?_
          refine C_block ?_
          refine C_seq ?_
          refine C_region ?_
          refine V_y (Y_move rfl) rfl rfl rfl ?_
          obtain ⟨wd, hwd, hx2⟩ := Option.bind_eq_some_iff.1 hx2
          refine V_indexAddr h_b hwd Tryz.underlying73 Tryz.sizeOf9 rfl rfl rfl ?_
          intro b23 o23 h23
          refine V_y (Y_load (El.str h23) Tryz.isAgg9 rfl) rfl rfl rfl ?_
          refine V_y (Y_assign rfl) rfl rfl rfl ?_
          refine V_y (Y_assign rfl) rfl rfl rfl ?_
          refine V_to (fun _ _ => rfl) ?_
          refine C_region_qt (Dw := False) 6 Tryz_mixed (by kernel_rfl) ?_
          simp only [List.take, List.drop]
          refine VQ_y (fun w' hw' => Y_move rfl) rfl rfl rfl ?_
          refine VQ_y (fun w' hw' => Y_move rfl) rfl rfl rfl ?_
          obtain ⟨t, hst, hx2⟩ := Option.bind_eq_some_iff.1 hx2
          refine VQ_call (.string t) Tryz.call81 rfl rfl rfl rfl (fun w' hw' => (portref2_StemOf_c w' (fun b hb => hA b (Nat.le_trans hw'.size hb)) wd hst).mono (fun _ _ h => ⟨h.1, Kp.trans (Dw := False) hw' h.2⟩)) ?_
          have h_id2 := El_know_Entry_0 h_v
          refine VQ_y (fun w' hw' => Y_fieldAddr Tryz.underlying33 rfl Tryz.sizeOf3 (by decide) rfl) rfl rfl rfl ?_
          refine VQ_y (fun w' hw' => Y_load (El.int (El.kp (Dw := False) h_id2 hw')) Tryz.isAgg3 rfl) rfl rfl rfl ?_
          refine VQ_y (fun w' hw' => Y_move rfl) rfl rfl rfl ?_
          refine VQ_tail (fun w24 hk24 => ?_)
          try simp only [List.take, List.drop]
          have ht24 := Kp.tr (Dw := False) hk24 hA hB
          replace hH := Hp.kp (Dw := False) hH hk24
          replace hr2 := Tr.trans (Dw := False) hr2 ht24
          replace hB := Nat.le_trans hB ht24.ex.size
          replace hA := ht24.new
          obtain ⟨m3, hm3, hx2⟩ := Option.bind_eq_some_iff.1 hx2
          refine V_call Tryz.call80 rfl rfl rfl rfl (portref2_indexOf_put_c w24 hB hA t e.id_ (k2 : Int) false b_m mb s hH hm3) ?_
          rintro _ w25 ⟨A25, rfl, hH25, ht25⟩
          replace hr2 := Tr.trans (Dw := False) hr2 ht25
          refine V_to (fun _ _ => rfl) ?_
          refine C_region ?_
          refine V_y (Y_addI rfl rfl) rfl rfl rfl ?_
          refine V_y (Y_move rfl) rfl rfl rfl ?_
          obtain rfl := Option.some.inj hx2
          refine V_end (fun a ha => ?_)
          exact ⟨m3, hlt2, hnx2, ⟨A25, ha.sub ⟨rfl, rfl, rfl, rfl, rfl, rfl, rfl, rfl, rfl, rfl, (congrArg (fun z => some (Value.int .i64 z)) (w64_succ hlt2 hnwb)), trivial⟩, hH25, hr2⟩⟩
        · refine C_exit (fun a ha => ?_)
          exact ⟨(s, A22), ha.sub ⟨rfl, rfl, rfl, rfl, rfl, rfl, rfl, rfl, trivial⟩, ⟨(hfin2 (eq_of_dec hle2 hc2)).symm, hH, hr2⟩⟩
      rintro ⟨m2, A31⟩ w31 ⟨rfl, hH30, ht30⟩ a ha30
      rw [Lp.andThen_fin] at hx
      replace h_l := Sl.tr (Dw := False) h_l ht30
      replace hr := Tr.trans (Dw := False) hr ht30
      replace hB := Nat.le_trans hB ht30.ex.size
      replace hA := ht30.new
      replace hH : Hp w.heap.size A31 w31 (obC b_m [.map (some mb)] 178 :: obMO MRf idxIn mb m2 :: obS (α := Int) 3 v19 sizes2 :: obS (α := Int) 3 v17 ids2 :: obC b_x [v17, v19, .slice none 0 0] 26 :: obC b_r [.slice none 0 0, .slice none 0 0, .slice none 0 0] 26 :: []) := hH30
      refine C_at (n := ⟨130, [], none⟩) (fun _ _ => rfl) ?_ ha30
      refine C_region ?_
      refine V_y (Y_addI rfl rfl) rfl rfl rfl ?_
      refine V_y (Y_move rfl) rfl rfl rfl ?_
      obtain rfl := Option.some.inj hx
      refine V_end (fun a ha => ?_)
      exact ⟨(ids2, sizes2, m2), hlt, hnx, ⟨(v17, v19, A31), ha.sub ⟨rfl, rfl, rfl, rfl, rfl, rfl, (congrArg (fun z => some (Value.int .i64 z)) (w64_succ hlt hnl)), trivial⟩, hH, hr⟩⟩
    · refine C_exit (fun a ha => ?_)
      exact ⟨((ids, sizes, at_), v1, v2, A6), ha.sub ⟨rfl, rfl, rfl, trivial⟩, ⟨(hfin (eq_of_dec hle hc)).symm, hH, hr⟩⟩
  rintro ⟨⟨ids, sizes, at_⟩, v1, v2, A6⟩ w6 ⟨rfl, hH6, ht6⟩ a ha6
  rw [Lp.andThen_fin] at hm
  dsimp only at hm
  split at hm
  case isFalse => cases hm
  rename_i hsz
  replace hK := Tr.trans (Dw := False) hK ht6
  replace hB := Nat.le_trans hB ht6.ex.size
  replace hA := ht6.new
  replace hH : Hp w.heap.size A6 w6 (obC b_m [.map (some mb)] 178 :: obMO MRf idxIn mb at_ :: obS (α := Int) 3 v2 sizes :: obS (α := Int) 3 v1 ids :: obC b_x [v1, v2, .slice none 0 0] 26 :: obC b_r [.slice none 0 0, .slice none 0 0, .slice none 0 0] 26 :: []) := hH6
  clear hH6
  -- the maps and the postings are from now on only read
  have hnd := Hp.moNodup hH (i := 1) rfl
  obtain ⟨A7, f0, hP, hf0, hsub, ht7, hH7⟩ := Hp.frz (Dw := False) hH (i := 1) rfl hA
  obtain ⟨rs, hrl, hF, hPo⟩ := moPersist hP hf0
  replace hK := Tr.trans (Dw := False) hK ht7
  replace hA := ht7.new
  have hIn : ∀ (j : Nat) (r : MRf) (p : ByteArray × List (Int × know_Posting)), rs[j]? = some r → at_[j]? = some p → ∃ qs : List Ptr, qs.length = p.2.length ∧ FMb A7 w6 r.b (moE p.2 qs) ∧ ∀ (j2 : Nat) (r2 : Ptr) (p2 : Int × know_Posting), qs[j2]? = some r2 → p.2[j2]? = some p2 → El (α := know_Posting) A7 w6 r2.b 0 p2.2 := fun j r p h1 h2 => by
    obtain ⟨fb, h3, h4⟩ := hPo j r p h1 h2
    obtain ⟨qs, q1, q2, q3⟩ := moPersist (R := Ptr) (f := idxPo) (A1 := A7) h3 h4
    refine ⟨qs, q1, q2, fun j2 r2 p2 h5 h6 => ?_⟩
    obtain ⟨fc, h7, h8⟩ := q3 j2 r2 p2 h5 h6
    exact idxPo_el h7 h8
  clear hP hf0 hPo
  have HC : Hp w.heap.size A7 w6 (obC b_m [.map (some mb)] 178 :: obS (α := Int) 3 v2 sizes :: obS (α := Int) 3 v1 ids :: obC b_x [v1, v2, .slice none 0 0] 26 :: obC b_r [.slice none 0 0, .slice none 0 0, .slice none 0 0] 26 :: []) := hH7
  refine C_at (n := ⟨130, [], none⟩) (fun _ _ => rfl) ?_ ha6
  refine C_seq ?_
  refine C_region ?_
  refine V_y (Y_assign rfl) rfl rfl rfl ?_
  refine V_to (fun _ _ => rfl) ?_
  replace hH : Hp w.heap.size A7 w6 (obS (α := ByteArray) 9 (.slice none 0 0) [] :: obC b_m [.map (some mb)] 178 :: obS (α := Int) 3 v2 sizes :: obS (α := Int) 3 v1 ids :: obC b_x [v1, v2, .slice none 0 0] 26 :: obC b_r [.slice none 0 0, .slice none 0 0, .slice none 0 0] 26 :: []) := Hp.addNil (α := ByteArray) (e := 9) HC
  clear HC hH7
  refine C_seq ?_
  refine C_seq ?_
  refine C_region ?_
  refine V_y (Y_load (Hp.cell (j := 0) hH (i := 1) rfl rfl) Tryz.isAgg178 rfl) rfl rfl rfl ?_
  obtain ⟨hFA, hFl, hFn, es, clk, hFq, hFe, hFb, hFd⟩ := hF
  refine V_rangeF (Dw := False) hH hFq rfl hB hA rfl Tryz.underlying178 ?_
  intro rb w8 A8 hH8 ht8
  have hF8 : FMb A8 w8 mb (moE at_ rs) := FMb.tr (Dw := False) ⟨hFA, hFl, hFn, es, clk, hFq, hFe, hFb, hFd⟩ ht8
  have hes : es.size = at_.length := by
    have := congrArg List.length hFe
    simp [moE, hrl] at this
    omega
  replace hK := Tr.trans (Dw := False) hK ht8
  replace hB := Nat.le_trans hB ht8.ex.size
  replace hA := ht8.new
  refine V_to (fun _ _ => rfl) ?_
  refine C_cutG (ι := (List MapEntry × Value × Array Nat × Nat × (Nat → Prop))) (fun ⟨vis, vs, seen, c0, A'⟩ => [(2, .pointer (some ⟨b_r, 0, none⟩)), (3, .pointer (some ⟨b_x, 0, none⟩)), (4, .pointer (some ⟨b_m, 0, none⟩)), (14, vs)]) (fun ⟨vis, vs, seen, c0, A'⟩ => fun w' => (vis.map (·.born)).Perm (es.toList.map (·.born)) ∧ (∀ x ∈ vis, x ∈ es.toList) ∧ (∃ st : List ByteArray, vis.map (·.key) = st.map Value.string ∧ Hp w.heap.size A' w' (obS (α := ByteArray) 9 vs st :: obC b_m [.map (some mb)] 178 :: obS (α := Int) 3 v2 sizes :: obS (α := Int) 3 v1 ids :: obC b_x [v1, v2, .slice none 0 0] 26 :: obC b_r [.slice none 0 0, .slice none 0 0, .slice none 0 0] 26 :: [])) ∧ Tr False w.heap.size A8 w8 A' w') ?_ ?_
  · refine C_block ?_
    refine C_loop (fun m a w' => ∃ (vis : List MapEntry) (vs : Value) (st : List ByteArray) (seen : Array Nat) (c0 : Nat) (A' : Nat → Prop), m = (leftOf es seen).size ∧ clk ≤ c0 ∧ seen.toList = vis.map (·.born) ∧ (∀ x ∈ vis, x ∈ es.toList) ∧ (vis.map (·.born)).Nodup ∧ vis.map (·.key) = st.map Value.string ∧ Has ⟨130, [], none⟩ a [(2, .pointer (some ⟨b_r, 0, none⟩)), (3, .pointer (some ⟨b_x, 0, none⟩)), (4, .pointer (some ⟨b_m, 0, none⟩)), (14, vs), (84, .pointer (some ⟨rb, 0, none⟩))] ∧ Hp w.heap.size A' w' (obO rb (.mapIter (some mb) clk seen c0) :: obS (α := ByteArray) 9 vs st :: obC b_m [.map (some mb)] 178 :: obS (α := Int) 3 v2 sizes :: obS (α := Int) 3 v1 ids :: obC b_x [v1, v2, .slice none 0 0] 26 :: obC b_r [.slice none 0 0, .slice none 0 0, .slice none 0 0] 26 :: []) ∧ Tr False w.heap.size A8 w8 A' w') _ (fun a ha => ⟨[], .slice none 0 0, [], #[], clk, A8, rfl, Nat.le_refl _, rfl, (fun _ h => nomatch h), List.nodup_nil, rfl, ha.sub ⟨rfl, rfl, rfl, rfl, rfl, trivial⟩, hH8, Tr.refl (Dw := False) hA⟩) ?_
    rintro m a w9 ⟨vis, vs, st, seen, c0, A9, rfl, hc0, hseen, hvis, hvn, hkey, ha9, hH9, hr⟩
    replace hB := Nat.le_trans hB hr.ex.size
    replace hA := hr.new
    have hF9 : FMb A9 w9 mb (moE at_ rs) := FMb.tr (Dw := False) hF8 hr
    have hq9 : w9.heap[mb]? = some (.map es clk) := by
      have h1 := (ht8.ex.block mb hFl hFA)
      have h2 := hr.ex.block mb hF8.2.1 hF8.1
      rw [h2.2, h1.2]
      exact hFq
    refine C_of ?_ ha9
    refine C_seq ?_
    refine C_region ?_
    refine V_nextF (Dw := False) hH9 hq9 (j := 0) rfl rfl hFb hc0 hB hA rfl ?_ ?_
    · intro h0
      refine V_y (Y_extract rfl rfl) rfl rfl rfl ?_
      refine V_to (fun _ _ => rfl) ?_
      refine C_seq ?_
      refine C_false rfl ?_
      refine C_exit (fun a ha => ?_)
      exact ⟨(vis, vs, seen, c0, A9), ha.sub ⟨rfl, rfl, rfl, rfl, trivial⟩, left_done hseen hvis hvn hFd h0, hvis, ⟨st, hkey, Hp.drop hH9 (i := 0) rfl⟩, hr⟩
    · intro en w10 hen hH10 ht10
      replace hr := Tr.trans (Dw := False) hr ht10
      replace hB := Nat.le_trans hB ht10.ex.size
      replace hA := ht10.new
      have hem := mem_left hen
      have hq10 : w10.heap[mb]? = some (.map es clk) := by
        rw [(ht10.ex.block mb hF9.2.1 hF9.1).2]
        exact hq9
      obtain ⟨pk, hpk, hkeyp, _⟩ := sm_keys hFe en hem.1
      replace hH : Hp w.heap.size A9 w10 (obO rb (.mapIter (some mb) clk (seen.push en.born) clk) :: obS (α := ByteArray) 9 vs st :: obC b_m [.map (some mb)] 178 :: obS (α := Int) 3 v2 sizes :: obS (α := Int) 3 v1 ids :: obC b_x [v1, v2, .slice none 0 0] 26 :: obC b_r [.slice none 0 0, .slice none 0 0, .slice none 0 0] 26 :: []) := hH10
      have hkeyp2 : en.key = .string pk.1 := hkeyp
      refine V_y (Y_extract rfl rfl) rfl rfl rfl ?_
      refine V_to (fun _ _ => rfl) ?_
      refine C_seq ?_
      refine C_true rfl ?_
      refine C_skip_to (fun _ _ => rfl) ?_
      refine C_block ?_
      refine C_seq ?_
      refine C_region ?_
      refine V_y (Y_entryF (e := en) hH hq10 (j := 0) rfl rfl hem.1 hFd) rfl rfl rfl ?_
      rw [hkeyp2]
      refine V_y (Y_extract rfl rfl) rfl rfl rfl ?_
      refine V_y (Y_assign rfl) rfl rfl rfl ?_
      refine V_to (fun _ _ => rfl) ?_
      refine C_region ?_
      refine V_y (Y_move rfl) rfl rfl rfl ?_
      refine V_y (Y_move rfl) rfl rfl rfl ?_
      refine V_buildSlice (Dw := False) (l := ([pk.1] : List ByteArray)) (len := 1) Tryz.underlying73 Tryz.sizeOf9 Tryz.zeroValue9 rfl (by with_unfolding_all rfl) (show (1 * 1 : Nat) ≠ 0 by decide) (show (1 * 1 : Nat) ≤ 2 ^ 24 by decide) hA ⟨[.string pk.1], _, rfl, rfl, rfl⟩ rfl rfl ?_
      intro v11 w11 hk11 h11
      have ht11 := Kp.tr (Dw := False) hk11 hA hB
      replace hH := Hp.kp (Dw := False) hH hk11
      replace hr := Tr.trans (Dw := False) hr ht11
      replace hB := Nat.le_trans hB ht11.ex.size
      replace hA := ht11.new
      have hlen : (vis ++ [en]).length ≤ at_.length := by
        have hn2 : ((vis ++ [en]).map (·.born)).Nodup := by
          rw [List.map_append, List.nodup_append]
          refine ⟨hvn, by simp, fun a ha b hb => ?_⟩
          simp at hb
          subst hb
          intro e
          rw [← hseen] at ha
          have h5 := hem.2
          simp at h5
          exact h5 (by rw [← e]; simpa using ha)
        have h6 : ∀ x ∈ (vis ++ [en]).map (·.born), x ∈ es.toList.map (·.born) := fun x hx => by
          obtain ⟨y, hy, rfl⟩ := List.mem_map.1 hx
          rcases List.mem_append.1 hy with h7 | h7
          · exact List.mem_map_of_mem (hvis y h7)
          · rw [List.mem_singleton] at h7
            subst h7
            exact List.mem_map_of_mem hem.1
        have h8 := nodup_le hn2 h6
        simp at h8
        simp
        omega
      have hst : st.length = vis.length := by
        have := congrArg List.length hkey
        simp at this
        exact this.symm
      refine V_appendH (Dw := False) (e := 9) (v := vs) (l := st) (r := st ++ [pk.1]) (ti := Tryz.t9) (bytes := 16) (lim := 8796093022208) hH (i := 1) rfl h11 (by unfold appendL; rw [if_pos]; simp at hlen ⊢; omega) Tryz.underlying73 Tryz_info9 rfl rfl rfl rfl (by decide) (by decide) (by decide) hB hA rfl rfl rfl ?_
      intro v12 w12 A12 hH12 ht12
      replace hr := Tr.trans (Dw := False) hr ht12
      refine V_y (Y_assign rfl) rfl rfl rfl ?_
      refine V_end (fun a ha => ?_)
      refine ⟨_, left_shrinks es seen en hen, vis ++ [en], v12, st ++ [pk.1], seen.push en.born, clk, A12, rfl, Nat.le_refl _, by simp [hseen], ?_, ?_, ?_, ha.sub ⟨rfl, rfl, rfl, rfl, rfl, trivial⟩, hH12, hr⟩
      · intro x hx
        rcases List.mem_append.1 hx with h7 | h7
        · exact hvis x h7
        · rw [List.mem_singleton] at h7
          subst h7
          exact hem.1
      · rw [List.map_append, List.nodup_append]
        refine ⟨hvn, by simp, fun a ha b hb => ?_⟩
        simp at hb
        subst hb
        intro e
        rw [← hseen] at ha
        have h5 := hem.2
        simp at h5
        exact h5 (by rw [← e]; simpa using ha)
      · rw [List.map_append, List.map_append, hkey]
        simp [hkeyp2]
  rintro ⟨vis, vs, seen, c0, A9⟩ w9 ⟨hperm, hvis, ⟨st, hkey, hH9⟩, ht9⟩ a ha9
  have hpst : st.Perm (at_.map (·.1)) := by
    have h1 : vis.Perm es.toList := by
      refine perm_born hFd hvis hperm
    have h2 : (st.map Value.string).Perm ((at_.map (·.1)).map Value.string) := by
      rw [← hkey]
      refine (h1.map (·.key)).trans ?_
      have h3 : es.toList.map (·.key) = ((moE at_ rs).map encE).map (·.1) := by rw [← hFe, List.map_map]; rfl
      rw [h3, List.map_map]
      have h4 : (moE at_ rs).map (Prod.fst ∘ encE) = ((moE at_ rs).map (·.1)).map Value.string := by rw [List.map_map]; rfl
      rw [h4, moE_keys hrl]
    exact perm_strings h2
  replace hK := Tr.trans (Dw := False) hK ht9
  replace hB := Nat.le_trans hB ht9.ex.size
  replace hA := ht9.new
  have hF9 : FMb A9 w9 mb (moE at_ rs) := FMb.tr (Dw := False) hF8 ht9
  replace hH : Hp w.heap.size A9 w9 (obS (α := ByteArray) 9 vs st :: obC b_m [.map (some mb)] 178 :: obS (α := Int) 3 v2 sizes :: obS (α := Int) 3 v1 ids :: obC b_x [v1, v2, .slice none 0 0] 26 :: obC b_r [.slice none 0 0, .slice none 0 0, .slice none 0 0] 26 :: []) := hH9
  clear hH8 hH9
  refine C_at (n := ⟨130, [], none⟩) (fun _ _ => rfl) ?_ ha9
  refine C_seq ?_
  refine C_region ?_
  refine V_y (Y_move rfl) rfl rfl rfl ?_
  obtain ⟨q, hq, hm⟩ := Option.bind_eq_some_iff.1 hm
  rw [← sortStrs_perm hpst] at hq
  refine V_call Tryz.call82 rfl rfl rfl rfl (Tryz_cp82 (Dw := False) hH (i := 0) rfl hB hA hq) ?_
  rintro _ w10 ⟨rfl, hH10, ht10⟩
  replace hK := Tr.trans (Dw := False) hK ht10
  replace hB := Nat.le_trans hB ht10.ex.size
  replace hA := ht10.new
  replace hF9 := FMb.tr (Dw := False) hF9 ht10
  refine V_to (fun _ _ => rfl) ?_
  obtain ⟨A11, ht11, h_q, hH11⟩ := Hp.freeze (Dw := False) hH10 (i := 0) rfl hA
  replace hK := Tr.trans (Dw := False) hK ht11
  replace hA := ht11.new
  replace hF9 := FMb.tr (Dw := False) hF9 ht11
  have hTr := Tr.trans (Dw := False) ht8 (Tr.trans (Dw := False) ht9 (Tr.trans (Dw := False) ht10 ht11))
  replace hH : Hp w.heap.size A11 w10 (obS (α := know_Term) 83 (.slice none 0 0) [] :: obC b_m [.map (some mb)] 178 :: obS (α := Int) 3 v2 sizes :: obS (α := Int) 3 v1 ids :: obC b_x [v1, v2, .slice none 0 0] 26 :: obC b_r [.slice none 0 0, .slice none 0 0, .slice none 0 0] 26 :: []) := Hp.addNil (α := know_Term) (e := 83) hH11
  clear hH10 hH11
  refine C_seq ?_
  refine C_seq ?_
  refine C_region ?_
  refine V_y (Y_move rfl) rfl rfl rfl ?_
  refine V_y (Y_lenSl h_q rfl Tryz.underlying73 rfl) rfl rfl rfl ?_
  refine V_y (Y_move rfl) rfl rfl rfl ?_
  refine V_to (fun _ _ => rfl) ?_
  have hnq := Sl.le h_q
  obtain ⟨o2, ho2, hm⟩ := Option.bind_eq_some_iff.1 hm
  refine C_cutG (ι := (List know_Term × Value × (Nat → Prop))) (fun ⟨s, v3, A'⟩ => [(2, .pointer (some ⟨b_r, 0, none⟩)), (3, .pointer (some ⟨b_x, 0, none⟩)), (4, .pointer (some ⟨b_m, 0, none⟩))]) (fun ⟨s, v3, A'⟩ => fun w' => o2 = .fin s ∧ Hp w.heap.size A' w' (obS (α := know_Term) 83 v3 s :: obC b_m [.map (some mb)] 178 :: obS (α := Int) 3 v2 sizes :: obS (α := Int) 3 v1 ids :: obC b_x [v1, v2, v3] 26 :: obC b_r [.slice none 0 0, .slice none 0 0, .slice none 0 0] 26 :: []) ∧ Tr False w.heap.size A11 w10 A' w') ?_ ?_
  · refine C_block ?_
    refine C_range ho2 (fun k s a w' => ∃ i : (Value × (Nat → Prop)), Has ⟨130, [], none⟩ a ([(2, .pointer (some ⟨b_r, 0, none⟩)), (3, .pointer (some ⟨b_x, 0, none⟩)), (4, .pointer (some ⟨b_m, 0, none⟩)), (95, vs), (96, .int .i64 (q.length : Int)), (97, .int .i64 (k : Int))]) ∧ Hp w.heap.size i.2 w' (obS (α := know_Term) 83 i.1 s :: obC b_m [.map (some mb)] 178 :: obS (α := Int) 3 v2 sizes :: obS (α := Int) 3 v1 ids :: obC b_x [v1, v2, i.1] 26 :: obC b_r [.slice none 0 0, .slice none 0 0, .slice none 0 0] 26 :: []) ∧ Tr False w.heap.size A11 w10 i.2 w') (fun a ha => ⟨(.slice none 0 0, A11), ha.sub ⟨rfl, rfl, rfl, rfl, rfl, rfl, trivial⟩, hH, Tr.refl (Dw := False) hA⟩) ?_
    rintro K k s a w12 ⟨⟨v3, A12⟩, ha12, hH12, hr⟩ hle K12 hfin
    refine C_of ?_ ha12
    replace h_q := Sl.tr (Dw := False) h_q hr
    have hF12 := FMb.tr (Dw := False) hF9 hr
    replace hB := Nat.le_trans hB hr.ex.size
    replace hA := hr.new
    replace hH : Hp w.heap.size A12 w12 (obS (α := know_Term) 83 v3 s :: obC b_m [.map (some mb)] 178 :: obS (α := Int) 3 v2 sizes :: obS (α := Int) 3 v1 ids :: obC b_x [v1, v2, v3] 26 :: obC b_r [.slice none 0 0, .slice none 0 0, .slice none 0 0] 26 :: []) := hH12
    refine C_seq (C_region (V_y (Y_lss rfl rfl) rfl rfl rfl (V_to (fun _ _ => rfl) ?_)))
    refine C_seq ?_
    refine C_cond rfl (fun hc => ?_) (fun hc => ?_)
    · have hlt := lt_of_dec hc
      obtain ⟨x, hx, hnx⟩ := K12 hlt
      unfold idxTerm at hx
      refine C_skip_to (fun _ _ => rfl) ?_
      refine C_seq ?_
      refine C_block ?_
      refine C_seq ?_
      refine C_region ?_
      obtain ⟨t, ht, hx⟩ := Option.bind_eq_some_iff.1 hx
      refine V_indexAddr h_q ht Tryz.underlying73 Tryz.sizeOf9 rfl rfl rfl ?_
      intro b13 o13 h13
      refine V_y (Y_load (El.str h13) Tryz.isAgg9 rfl) rfl rfl rfl ?_
      refine V_y (Y_assign rfl) rfl rfl rfl ?_
      refine V_to (fun _ _ => rfl) ?_
      obtain ⟨m, hmt, hx⟩ := Option.bind_eq_some_iff.1 hx
      split at hx
      case isFalse => cases hx
      rename_i hmz
      obtain ⟨j, rf, hj, hrj, hg, _⟩ := moE_some (rs := rs) hrl hmt
      obtain ⟨qs, hql, hFi0, hEl0⟩ := hIn j rf (t, m) hrj hj
      have hFi := FMb.tr (Dw := False) hFi0 (Tr.trans (Dw := False) hTr hr)
      have hEl := fun j2 r2 p2 h1 h2 => El.tr (Dw := False) (hEl0 j2 r2 p2 h1 h2) (Tr.trans (Dw := False) hTr hr)
      refine C_seq ?_
      refine C_region ?_
      refine V_y (Y_move rfl) rfl rfl rfl ?_
      refine V_y (Y_build Tryz.underlying83 Tryz.zeroValue83 (Tryz_places83 _ Tryz.underlying83) rfl (by with_unfolding_all rfl)) rfl rfl rfl ?_
      refine V_allocH (Dw := False) (B := w.heap.size) hH Tryz.zeroValue83 hB hA rfl ?_
      intro b_t w14 A14 hH14 ht14
      replace h_q := Sl.tr (Dw := False) h_q ht14
      replace hF12 := FMb.tr (Dw := False) hF12 ht14
      replace hFi := FMb.tr (Dw := False) hFi ht14
      replace hr := Tr.trans (Dw := False) hr ht14
      replace hB := Nat.le_trans hB ht14.ex.size
      replace hA := ht14.new
      replace hEl := fun j2 r2 p2 h1 h2 => El.tr (Dw := False) (hEl j2 r2 p2 h1 h2) ht14
      refine V_storeC (Dw := False) (off := 0) (ds := [.string t, .slice none 0 0]) hH14 (i := 0) rfl Tryz.sizeOf83 rfl (Nat.le_of_ble_eq_true rfl) (by exact (List.forall_mem_cons.2 ⟨rfl, (List.forall_mem_cons.2 ⟨rfl, (fun _ h => nomatch h)⟩)⟩)) rfl hB hA rfl rfl ?_
      intro w15 hH15 ht15
      replace h_q := Sl.tr (Dw := False) h_q ht15
      replace hF12 := FMb.tr (Dw := False) hF12 ht15
      replace hFi := FMb.tr (Dw := False) hFi ht15
      replace hr := Tr.trans (Dw := False) hr ht15
      replace hB := Nat.le_trans hB ht15.ex.size
      replace hA := ht15.new
      replace hEl := fun j2 r2 p2 h1 h2 => El.tr (Dw := False) (hEl j2 r2 p2 h1 h2) ht15
      replace hH : Hp w.heap.size A14 w15 (obS (α := know_Posting) 86 (.slice none 0 0) [] :: obC b_t [.string t, .slice none 0 0] 83 :: obS (α := know_Term) 83 v3 s :: obC b_m [.map (some mb)] 178 :: obS (α := Int) 3 v2 sizes :: obS (α := Int) 3 v1 ids :: obC b_x [v1, v2, v3] 26 :: obC b_r [.slice none 0 0, .slice none 0 0, .slice none 0 0] 26 :: []) := Hp.addNil (α := know_Posting) (e := 86) hH15
      clear hH12 hH14 hH15
      refine V_to (fun _ _ => rfl) ?_
      refine C_seq ?_
      refine C_seq ?_
      refine C_region ?_
      refine V_y (Y_load (Hp.cell (j := 0) hH (i := 3) rfl rfl) Tryz.isAgg178 rfl) rfl rfl rfl ?_
      refine V_y (Y_move rfl) rfl rfl rfl ?_
      refine V_y (Y_lookupF (zz := (none : Option MRf)) hF12 Tryz.underlying178 Tryz.underlying9 Tryz.zeroValue179 rfl rfl rfl) rfl rfl rfl ?_
      rw [hg]
      have hFi2 := hFi
      obtain ⟨gA, gl, gn, es2, clk2, gq, ge, gb, gd⟩ := hFi
      refine V_rangeF (Dw := False) (mb := rf.b) hH gq rfl hB hA rfl Tryz.underlying179 ?_
      intro rb2 w16 A16 hH16 ht16
      replace h_q := Sl.tr (Dw := False) h_q ht16
      replace hF12 := FMb.tr (Dw := False) hF12 ht16
      replace hFi2 := FMb.tr (Dw := False) hFi2 ht16
      replace hr := Tr.trans (Dw := False) hr ht16
      replace hB := Nat.le_trans hB ht16.ex.size
      replace hA := ht16.new
      replace hEl := fun j2 r2 p2 h1 h2 => El.tr (Dw := False) (hEl j2 r2 p2 h1 h2) ht16
      have gq16 : w16.heap[rf.b]? = some (.map es2 clk2) := by
        rw [(ht16.ex.block rf.b gl gA).2]
        exact gq
      have hes2 : es2.size = m.length := by
        have := congrArg List.length ge
        simp [moE, hql] at this
        omega
      refine V_to (fun _ _ => rfl) ?_
      refine C_cutG (ι := (List MapEntry × Value × (Nat → Prop))) (fun ⟨vis2, vp, A'⟩ => [(2, .pointer (some ⟨b_r, 0, none⟩)), (3, .pointer (some ⟨b_x, 0, none⟩)), (4, .pointer (some ⟨b_m, 0, none⟩)), (18, .pointer (some ⟨b_t, 0, none⟩)), (95, vs), (96, .int .i64 (q.length : Int)), (97, .int .i64 (k : Int))]) (fun ⟨vis2, vp, A'⟩ => fun w' => (vis2.map (·.born)).Perm (es2.toList.map (·.born)) ∧ (∀ x ∈ vis2, x ∈ es2.toList) ∧ (∃ pl : List know_Posting, pl.length = vis2.length ∧ (∀ (i : Nat) (x : MapEntry) (p : know_Posting), vis2[i]? = some x → pl[i]? = some p → ∃ kk : Int, x.key = Value.int .i64 kk ∧ (kk, p) ∈ m) ∧ Hp w.heap.size A' w' (obS (α := know_Posting) 86 vp pl :: obC b_t [.string t, vp] 83 :: obS (α := know_Term) 83 v3 s :: obC b_m [.map (some mb)] 178 :: obS (α := Int) 3 v2 sizes :: obS (α := Int) 3 v1 ids :: obC b_x [v1, v2, v3] 26 :: obC b_r [.slice none 0 0, .slice none 0 0, .slice none 0 0] 26 :: [])) ∧ Tr False w.heap.size A16 w16 A' w') ?_ ?_
      · refine C_block ?_
        refine C_loop (fun mm a w' => ∃ (vis2 : List MapEntry) (vp : Value) (pl : List know_Posting) (seen : Array Nat) (c0 : Nat) (A' : Nat → Prop), mm = (leftOf es2 seen).size ∧ clk2 ≤ c0 ∧ seen.toList = vis2.map (·.born) ∧ (∀ x ∈ vis2, x ∈ es2.toList) ∧ (vis2.map (·.born)).Nodup ∧ pl.length = vis2.length ∧ (∀ (i : Nat) (x : MapEntry) (p : know_Posting), vis2[i]? = some x → pl[i]? = some p → ∃ kk : Int, x.key = Value.int .i64 kk ∧ (kk, p) ∈ m) ∧ Has ⟨130, [], none⟩ a [(2, .pointer (some ⟨b_r, 0, none⟩)), (3, .pointer (some ⟨b_x, 0, none⟩)), (4, .pointer (some ⟨b_m, 0, none⟩)), (18, .pointer (some ⟨b_t, 0, none⟩)), (95, vs), (96, .int .i64 (q.length : Int)), (97, .int .i64 (k : Int)), (106, .pointer (some ⟨rb2, 0, none⟩))] ∧ Hp w.heap.size A' w' (obO rb2 (.mapIter (some rf.b) clk2 seen c0) :: obS (α := know_Posting) 86 vp pl :: obC b_t [.string t, vp] 83 :: obS (α := know_Term) 83 v3 s :: obC b_m [.map (some mb)] 178 :: obS (α := Int) 3 v2 sizes :: obS (α := Int) 3 v1 ids :: obC b_x [v1, v2, v3] 26 :: obC b_r [.slice none 0 0, .slice none 0 0, .slice none 0 0] 26 :: []) ∧ Tr False w.heap.size A16 w16 A' w') _ (fun a ha => ⟨[], .slice none 0 0, [], #[], clk2, A16, rfl, Nat.le_refl _, rfl, (fun _ h => nomatch h), List.nodup_nil, rfl, (fun i x p h => by simp at h), ha.sub ⟨rfl, rfl, rfl, rfl, rfl, rfl, rfl, rfl, trivial⟩, hH16, Tr.refl (Dw := False) hA⟩) ?_
        rintro mm a w17 ⟨vis2, vp, pl, seen, c0, A17, rfl, hc0, hseen, hvis2, hvn, hpl, hpm, ha17, hH17, hr3⟩
        replace hB := Nat.le_trans hB hr3.ex.size
        replace hA := hr3.new
        have hF17 := FMb.tr (Dw := False) hFi2 hr3
        have gq17 : w17.heap[rf.b]? = some (.map es2 clk2) := by
          rw [(hr3.ex.block rf.b hFi2.2.1 hFi2.1).2]
          exact gq16
        refine C_of ?_ ha17
        refine C_seq ?_
        refine C_region ?_
        refine V_nextF (Dw := False) hH17 gq17 (j := 0) rfl rfl gb hc0 hB hA rfl ?_ ?_
        · intro h0
          refine V_y (Y_extract rfl rfl) rfl rfl rfl ?_
          refine V_to (fun _ _ => rfl) ?_
          refine C_seq ?_
          refine C_false rfl ?_
          refine C_exit (fun a ha => ?_)
          exact ⟨(vis2, vp, A17), ha.sub ⟨rfl, rfl, rfl, rfl, rfl, rfl, rfl, trivial⟩, left_done hseen hvis2 hvn gd h0, hvis2, ⟨pl, hpl, hpm, Hp.drop hH17 (i := 0) rfl⟩, hr3⟩
        · intro en w18 hen hH18 ht18
          have hem := mem_left hen
          have gq18 : w18.heap[rf.b]? = some (.map es2 clk2) := by
            rw [(ht18.ex.block rf.b hF17.2.1 hF17.1).2]
            exact gq17
          have hF18 := FMb.tr (Dw := False) hF17 ht18
          have hr30 := hr3
          replace hr3 := Tr.trans (Dw := False) hr3 ht18
          replace hB := Nat.le_trans hB ht18.ex.size
          replace hA := ht18.new
          obtain ⟨i2, hi2⟩ := List.mem_iff_getElem?.1 hem.1
          obtain ⟨⟨kk, oo⟩, hpk, hkeyp, hvalp⟩ := sm_at ge hi2
          obtain ⟨r2, p2, hr2, hp2, rfl⟩ := moE_at hql hpk
          have hpo := El.tr (Dw := False) (hEl i2 r2 (kk, p2) hr2 hp2) hr3
          have hkeyp2 : en.key = .int .i64 kk := hkeyp
          have hvalp2 : en.val = .pointer (some ⟨r2.b, 0, none⟩) := hvalp
          replace hH : Hp w.heap.size A17 w18 (obO rb2 (.mapIter (some rf.b) clk2 (seen.push en.born) clk2) :: obS (α := know_Posting) 86 vp pl :: obC b_t [.string t, vp] 83 :: obS (α := know_Term) 83 v3 s :: obC b_m [.map (some mb)] 178 :: obS (α := Int) 3 v2 sizes :: obS (α := Int) 3 v1 ids :: obC b_x [v1, v2, v3] 26 :: obC b_r [.slice none 0 0, .slice none 0 0, .slice none 0 0] 26 :: []) := hH18
          refine V_y (Y_extract rfl rfl) rfl rfl rfl ?_
          refine V_to (fun _ _ => rfl) ?_
          refine C_seq ?_
          refine C_true rfl ?_
          refine C_skip_to (fun _ _ => rfl) ?_
          refine C_block ?_
          refine C_seq ?_
          refine C_region ?_
          refine V_y (Y_entryF (e := en) hH gq18 (j := 0) rfl rfl hem.1 gd) rfl rfl rfl ?_
          rw [hvalp2]
          refine V_y (Y_extract rfl rfl) rfl rfl rfl ?_
          refine V_y (Y_assign rfl) rfl rfl rfl ?_
          refine V_to (fun _ _ => rfl) ?_
          refine C_region_ch (Dw := False) A17 9 [(1, 0), (0, 1), (1, 2), (1, 3), (1, 4), (2, 5), (4, 6), (1, 7), (4, 8)] Tryz_mixed (by kernel_rfl) (fun w19 hk19 => ?_)
          have ht19 := Kp.tr (Dw := False) hk19 hA hB
          replace hH := Hp.kp (Dw := False) hH hk19
          replace hpo := El.tr (Dw := False) hpo ht19
          replace hr3 := Tr.trans (Dw := False) hr3 ht19
          replace hB := Nat.le_trans hB ht19.ex.size
          replace hA := ht19.new
          refine CH_q2 (Dw := False) rfl ?_
          refine VQ_y (fun w' hw' => Y_fieldAddrC (off2 := 1) Tryz.underlying83 rfl Tryz.sizeOf81 (by decide) rfl rfl) rfl rfl rfl ?_
          refine VQ_CH (Dw := False) ?_
          refine CH_q1 (Dw := False) rfl ?_
          refine VQ_y (fun w' hw' => Y_load ((World.cell?_of_block (hw'.block _ (World.block_lt_of_cell? _ _ (Hp.cell (j := 1) hH (i := 2) rfl rfl)))).trans (Hp.cell (j := 1) hH (i := 2) rfl rfl)) Tryz.isAgg81 rfl) rfl rfl rfl ?_
          refine VQ_CH (Dw := False) ?_
          refine CH_q2 (Dw := False) rfl ?_
          refine VQ_y (fun w' hw' => Y_move rfl) rfl rfl rfl ?_
          refine VQ_CH (Dw := False) ?_
          refine CH_q2 (Dw := False) rfl ?_
          refine VQ_y (fun w' hw' => Y_nilCheck rfl) rfl rfl rfl ?_
          refine VQ_CH (Dw := False) ?_
          refine CH_q2 (Dw := False) rfl ?_
          obtain ⟨vt, vb, hat, h_t, h_b⟩ := El_know_Posting hpo
          refine VQ_y (fun w' hw' => Y_loadA (At.same hat (hw'.2 _ hpo.2.1 hpo.1)) Tryz.isAgg86 Tryz.sizeOf86 rfl) rfl rfl rfl ?_
          refine VQ_CH (Dw := False) ?_
          refine CH_l1 (Dw := False) (k := 0) rfl ?_
          refine V_buildSlice (Dw := False) (cells := #[.int .i64 p2.id_, vt, vb]) (l := ([p2] : List know_Posting)) (len := 1) Tryz.underlying81 Tryz.sizeOf86 Tryz.zeroValue86 rfl (by obtain ⟨a89, c90, e91, _⟩ := Sl.form h_t; subst e91; obtain ⟨a92, c93, e94, _⟩ := Sl.form h_b; subst e94; kernel_rfl) (show (1 * 3 : Nat) ≠ 0 by decide) (show (1 * 3 : Nat) ≤ 2 ^ 24 by decide) hA ⟨[.int .i64 p2.id_, vt, vb], _, rfl, ⟨[.int .i64 p2.id_], _, rfl, rfl, ⟨[vt], _, rfl, ⟨_, rfl, h_t⟩, ⟨_, rfl, h_b⟩⟩⟩, rfl⟩ rfl rfl ?_
          intro v20 w20 hk20 h20
          have ht20 := Kp.tr (Dw := False) hk20 hA hB
          replace hH := Hp.kp (Dw := False) hH hk20
          replace hr3 := Tr.trans (Dw := False) hr3 ht20
          replace hB := Nat.le_trans hB ht20.ex.size
          replace hA := ht20.new
          refine V_CH (Dw := False) (hk20) ?_
          refine CH_l1 (Dw := False) (k := 2) rfl ?_
          have hlen : (vis2 ++ [en]).length ≤ m.length := by
            have hn2 : ((vis2 ++ [en]).map (·.born)).Nodup := by
              rw [List.map_append, List.nodup_append]
              refine ⟨hvn, by simp, fun a ha b hb => ?_⟩
              simp at hb
              subst hb
              intro e
              rw [← hseen] at ha
              have h5 := hem.2
              simp at h5
              exact h5 (by rw [← e]; simpa using ha)
            have h6 : ∀ x ∈ (vis2 ++ [en]).map (·.born), x ∈ es2.toList.map (·.born) := fun x hx => by
              obtain ⟨y, hy, rfl⟩ := List.mem_map.1 hx
              rcases List.mem_append.1 hy with h7 | h7
              · exact List.mem_map_of_mem (hvis2 y h7)
              · rw [List.mem_singleton] at h7
                subst h7
                exact List.mem_map_of_mem hem.1
            have h8 := nodup_le hn2 h6
            simp at h8
            simp
            omega
          refine V_appendH (Dw := False) (e := 86) (v := vp) (l := pl) (r := pl ++ [p2]) (ti := Tryz.t86) (bytes := 56) (lim := 2513169434916) hH (i := 1) rfl h20 (by unfold appendL; rw [if_pos]; simp at hlen ⊢; omega) Tryz.underlying81 Tryz_info86 rfl rfl rfl rfl (by decide) (by decide) (by decide) hB hA rfl rfl rfl ?_
          intro v21 w21 A21 hH21 ht21
          replace hr3 := Tr.trans (Dw := False) hr3 ht21
          replace hB := Nat.le_trans hB ht21.ex.size
          replace hA := ht21.new
          replace hH : Hp w.heap.size A21 w21 (obO rb2 (.mapIter (some rf.b) clk2 (seen.push en.born) clk2) :: obS (α := know_Posting) 86 v21 (pl ++ [p2]) :: obC b_t [.string t, vp] 83 :: obS (α := know_Term) 83 v3 s :: obC b_m [.map (some mb)] 178 :: obS (α := Int) 3 v2 sizes :: obS (α := Int) 3 v1 ids :: obC b_x [v1, v2, v3] 26 :: obC b_r [.slice none 0 0, .slice none 0 0, .slice none 0 0] 26 :: []) := hH21
          refine V_CHw (Dw := False) ?_
          refine CH_q2 (Dw := False) rfl ?_
          refine VQ_y (fun w' hw' => Y_fieldAddrC (off2 := 1) Tryz.underlying83 rfl Tryz.sizeOf81 (by decide) rfl rfl) rfl rfl rfl ?_
          refine VQ_CH (Dw := False) ?_
          refine CH_l1 (Dw := False) (k := 2) rfl ?_
          have one21 : v21.oneCell' = true := by obtain ⟨_, _, e, _⟩ := Hp.form hH (i := 1) rfl; rw [e]; rfl
          refine V_storeC (Dw := False) (off := 1) (ds := [.string t, v21]) hH (i := 2) rfl Tryz.sizeOf81 (cells_of_one one21) (Nat.le_of_ble_eq_true rfl) (cells_all_one one21) (by rw [Value.cells_one one21]; rfl) hB hA rfl rfl ?_
          intro w22 hH22 ht22
          replace hr3 := Tr.trans (Dw := False) hr3 ht22
          replace hB := Nat.le_trans hB ht22.ex.size
          replace hA := ht22.new
          refine V_CHw (Dw := False) ?_
          refine CH_tail (Dw := False) ?_
          show V _ _ _ _ [] _ _
          refine V_end (fun a ha => ?_)
          refine ⟨_, left_shrinks es2 seen en hen, vis2 ++ [en], v21, pl ++ [p2], seen.push en.born, clk2, A21, rfl, Nat.le_refl _, by simp [hseen], ?_, ?_, by simp [hpl], ?_, ha.sub ⟨rfl, rfl, rfl, rfl, rfl, rfl, rfl, rfl, trivial⟩, hH22, hr3⟩
          · intro x hx
            rcases List.mem_append.1 hx with h7 | h7
            · exact hvis2 x h7
            · rw [List.mem_singleton] at h7
              subst h7
              exact hem.1
          · rw [List.map_append, List.nodup_append]
            refine ⟨hvn, by simp, fun a ha b hb => ?_⟩
            simp at hb
            subst hb
            intro e
            rw [← hseen] at ha
            have h5 := hem.2
            simp at h5
            exact h5 (by rw [← e]; simpa using ha)
          · intro i x p h1 h2
            rcases Nat.lt_or_ge i vis2.length with h3 | h3
            · rw [List.getElem?_append_left h3] at h1
              rw [List.getElem?_append_left (by omega)] at h2
              exact hpm i x p h1 h2
            · rw [List.getElem?_append_right h3] at h1
              rw [List.getElem?_append_right (by omega), hpl] at h2
              cases hi3 : i - vis2.length with
              | zero =>
                rw [hi3] at h1 h2
                simp at h1 h2
                subst h1
                subst h2
                exact ⟨kk, hkeyp2, List.mem_of_getElem? hp2⟩
              | succ i3 => rw [hi3] at h1; simp at h1
      rintro ⟨vis2, vp, A17⟩ w17 ⟨hperm2, hvis2, ⟨pl, hpl, hpm, hH17⟩, ht17⟩ a ha17
      have hpp : pl.Perm (m.map (·.2)) := by
        have h1 : vis2.Perm es2.toList := perm_born gd hvis2 hperm2
        exact perm_posts (κ := Int) (enc := Value.int .i64) (fun a b h => (Value.int.inj h).2) hpl hpm gn (moE_keys hql) (by
          refine (h1.map (·.key)).trans ?_
          have h3 : es2.toList.map (·.key) = ((moE m qs).map encE).map (·.1) := by rw [← ge, List.map_map]; rfl
          rw [h3, List.map_map]
          have h4 : (moE m qs).map (Prod.fst ∘ encE) = ((moE m qs).map (·.1)).map (Value.int .i64) := by rw [List.map_map]; rfl
          rw [h4, moE_keys hql])
      replace h_q := Sl.tr (Dw := False) h_q ht17
      replace hr := Tr.trans (Dw := False) hr ht17
      replace hB := Nat.le_trans hB ht17.ex.size
      replace hA := ht17.new
      replace hH : Hp w.heap.size A17 w17 (obS (α := know_Posting) 86 vp pl :: obC b_t [.string t, vp] 83 :: obS (α := know_Term) 83 v3 s :: obC b_m [.map (some mb)] 178 :: obS (α := Int) 3 v2 sizes :: obS (α := Int) 3 v1 ids :: obC b_x [v1, v2, v3] 26 :: obC b_r [.slice none 0 0, .slice none 0 0, .slice none 0 0] 26 :: []) := hH17
      refine C_at (n := ⟨130, [], none⟩) (fun _ _ => rfl) ?_ ha17
      refine C_seq ?_
      refine C_region ?_
      refine V_y (Y_fieldAddrC (off2 := 1) Tryz.underlying83 rfl Tryz.sizeOf81 (by decide) rfl rfl) rfl rfl rfl ?_
      refine V_y (Y_load (Hp.cell (j := 1) hH (i := 1) rfl rfl) Tryz.isAgg81 rfl) rfl rfl rfl ?_
      obtain ⟨ls, hls, hx⟩ := Option.bind_eq_some_iff.1 hx
      rw [← sortFunc_perm hpp] at hls
      refine V_call Tryz.call57 rfl rfl rfl rfl (Tryz_sf57 (Dw := False) Tryz.call83 (fun w18 ht18 h18 p1 q1 c1 c2 c3 h1 h2 h3 => by obtain ⟨v318, v320, rfl, h319, h321⟩ := Rep_know_Posting h1; obtain ⟨v325, v327, rfl, h326, h328⟩ := Rep_know_Posting h2; exact (portref2_indexOf_2_c (Dw := True) w18 h18 p1 v318 h319 v320 h321 q1 v325 h326 v327 h328 h3).mono fun _ _ h => ⟨h.1, h.2⟩) hH (i := 0) rfl hB hA hls) ?_
      rintro _ w18 ⟨rfl, hH18, ht18⟩
      replace h_q := Sl.tr (Dw := False) h_q ht18
      replace hr := Tr.trans (Dw := False) hr ht18
      replace hB := Nat.le_trans hB ht18.ex.size
      replace hA := ht18.new
      replace hH : Hp w.heap.size A17 w18 (obS (α := know_Posting) 86 vp ls :: obC b_t [.string t, vp] 83 :: obS (α := know_Term) 83 v3 s :: obC b_m [.map (some mb)] 178 :: obS (α := Int) 3 v2 sizes :: obS (α := Int) 3 v1 ids :: obC b_x [v1, v2, v3] 26 :: obC b_r [.slice none 0 0, .slice none 0 0, .slice none 0 0] 26 :: []) := hH18
      refine V_to (fun _ _ => rfl) ?_
      refine C_region ?_
      refine V_y (Y_fieldAddrC (off2 := 2) Tryz.underlying26 rfl Tryz.sizeOf24 (by decide) rfl rfl) rfl rfl rfl ?_
      refine V_y (Y_load (Hp.cell (j := 2) hH (i := 6) rfl rfl) Tryz.isAgg24 rfl) rfl rfl rfl ?_
      refine V_y (Y_loadA (Hp.part (off := 0) (n := 2) (ds := [.string t, vp]) hH (i := 1) rfl rfl) Tryz.isAgg83 Tryz.sizeOf83 rfl) rfl rfl rfl ?_
      obtain ⟨A19, ht19, h_p, hH19⟩ := Hp.freeze (Dw := False) (α := know_Posting) (v := vp) (l := ls) hH (i := 0) rfl hA
      replace h_q := Sl.tr (Dw := False) h_q ht19
      replace hr := Tr.trans (Dw := False) hr ht19
      replace hA := ht19.new
      replace hH : Hp w.heap.size A19 w18 (obC b_t [.string t, vp] 83 :: obS (α := know_Term) 83 v3 s :: obC b_m [.map (some mb)] 178 :: obS (α := Int) 3 v2 sizes :: obS (α := Int) 3 v1 ids :: obC b_x [v1, v2, v3] 26 :: obC b_r [.slice none 0 0, .slice none 0 0, .slice none 0 0] 26 :: []) := hH19
      refine V_buildSlice (Dw := False) (cells := #[.string t, vp]) (l := ([(⟨t, ls⟩ : know_Term)] : List know_Term)) (len := 1) Tryz.underlying24 Tryz.sizeOf83 Tryz.zeroValue83 rfl (by obtain ⟨a339, c340, e341, _⟩ := Sl.form h_p; subst e341; kernel_rfl) (show (1 * 2 : Nat) ≠ 0 by decide) (show (1 * 2 : Nat) ≤ 2 ^ 24 by decide) hA ⟨[.string t, vp], _, rfl, ⟨[.string t], _, rfl, rfl, ⟨_, rfl, h_p⟩⟩, rfl⟩ rfl rfl ?_
      intro v20 w20 hk20 h20
      have ht20 := Kp.tr (Dw := False) hk20 hA hB
      replace hH := Hp.kp (Dw := False) hH hk20
      replace h_q := Sl.tr (Dw := False) h_q ht20
      replace hr := Tr.trans (Dw := False) hr ht20
      replace hB := Nat.le_trans hB ht20.ex.size
      replace hA := ht20.new
      obtain ⟨s2, hs2, hx⟩ := Option.bind_eq_some_iff.1 hx
      refine V_appendH (Dw := False) (e := 83) (v := v3) (l := s) (ti := Tryz.t83) (bytes := 40) (lim := 3518437208883) hH (i := 1) rfl h20 hs2 Tryz.underlying24 Tryz_info83 rfl rfl rfl rfl (by decide) (by decide) (by decide) hB hA rfl rfl rfl ?_
      intro v21 w21 A21 hH21 ht21
      replace h_q := Sl.tr (Dw := False) h_q ht21
      replace hr := Tr.trans (Dw := False) hr ht21
      replace hB := Nat.le_trans hB ht21.ex.size
      replace hA := ht21.new
      replace hH : Hp w.heap.size A21 w21 (obC b_t [.string t, vp] 83 :: obS (α := know_Term) 83 v21 s2 :: obC b_m [.map (some mb)] 178 :: obS (α := Int) 3 v2 sizes :: obS (α := Int) 3 v1 ids :: obC b_x [v1, v2, v3] 26 :: obC b_r [.slice none 0 0, .slice none 0 0, .slice none 0 0] 26 :: []) := hH21
      refine V_y (Y_fieldAddrC (off2 := 2) Tryz.underlying26 rfl Tryz.sizeOf24 (by decide) rfl rfl) rfl rfl rfl ?_
      have one21 : v21.oneCell' = true := by obtain ⟨_, _, e, _⟩ := Hp.form hH (i := 1) rfl; rw [e]; rfl
      refine V_storeC (Dw := False) (off := 2) (ds := [v1, v2, v21]) hH (i := 5) rfl Tryz.sizeOf24 (cells_of_one one21) (Nat.le_of_ble_eq_true rfl) (cells_all_one one21) (by rw [Value.cells_one one21]; rfl) hB hA rfl rfl ?_
      intro w22 hH22 ht22
      replace hr := Tr.trans (Dw := False) hr ht22
      replace hH : Hp w.heap.size A21 w22 (obS (α := know_Term) 83 v21 s2 :: obC b_m [.map (some mb)] 178 :: obS (α := Int) 3 v2 sizes :: obS (α := Int) 3 v1 ids :: obC b_x [v1, v2, v21] 26 :: obC b_r [.slice none 0 0, .slice none 0 0, .slice none 0 0] 26 :: []) := Hp.drop hH22 (i := 0) rfl
      refine V_to (fun _ _ => rfl) ?_
      refine C_region ?_
      refine V_y (Y_addI rfl rfl) rfl rfl rfl ?_
      refine V_y (Y_move rfl) rfl rfl rfl ?_
      obtain rfl := Option.some.inj hx
      refine V_end (fun a ha => ?_)
      exact ⟨s2, hlt, hnx, ⟨(v21, A21), ha.sub ⟨rfl, rfl, rfl, rfl, rfl, (congrArg (fun z => some (Value.int .i64 z)) (w64_succ hlt hnq)), trivial⟩, hH, hr⟩⟩
    · refine C_exit (fun a ha => ?_)
      exact ⟨(s, v3, A12), ha.sub ⟨rfl, rfl, rfl, trivial⟩, ⟨(hfin (eq_of_dec hle hc)).symm, hH, hr⟩⟩
  rintro ⟨s, v3, A12⟩ w12 ⟨rfl, hH12, ht12⟩ a ha12
  rw [Lp.andThen_fin] at hm
  obtain rfl := Option.some.inj hm
  replace hK := Tr.trans (Dw := False) hK ht12
  replace hB := Nat.le_trans hB ht12.ex.size
  replace hA := ht12.new
  replace hH : Hp w.heap.size A12 w12 (obS (α := know_Term) 83 v3 s :: obC b_m [.map (some mb)] 178 :: obS (α := Int) 3 v2 sizes :: obS (α := Int) 3 v1 ids :: obC b_x [v1, v2, v3] 26 :: obC b_r [.slice none 0 0, .slice none 0 0, .slice none 0 0] 26 :: []) := hH12
  refine C_at (n := ⟨130, [], none⟩) (fun _ _ => rfl) ?_ ha12
  refine C_seq ?_
  refine C_region ?_
  refine V_y (Y_loadA (Hp.part (off := 0) (n := 3) (ds := [v1, v2, v3]) hH (i := 4) rfl rfl) Tryz.isAgg26 Tryz.sizeOf26 rfl) rfl rfl rfl ?_
  obtain ⟨A13, ht13, h_1, hH13⟩ := Hp.freeze (Dw := False) (α := Int) (v := v1) (l := ids) hH (i := 3) rfl hA
  replace hK := Tr.trans (Dw := False) hK ht13
  replace hA := ht13.new
  obtain ⟨A14, ht14, h_2, hH14⟩ := Hp.freeze (Dw := False) (α := Int) (v := v2) (l := sizes) hH13 (i := 2) rfl hA
  replace hK := Tr.trans (Dw := False) hK ht14
  replace hA := ht14.new
  replace h_1 := Sl.tr (Dw := False) h_1 ht14
  obtain ⟨A15, ht15, h_3, hH15⟩ := Hp.freeze (Dw := False) (α := know_Term) (v := v3) (l := s) hH14 (i := 0) rfl hA
  replace hK := Tr.trans (Dw := False) hK ht15
  replace hA := ht15.new
  replace h_1 := Sl.tr (Dw := False) h_1 ht15
  replace h_2 := Sl.tr (Dw := False) h_2 ht15
  replace hH : Hp w.heap.size A15 w12 (obC b_m [.map (some mb)] 178 :: obC b_x [v1, v2, v3] 26 :: obC b_r [.slice none 0 0, .slice none 0 0, .slice none 0 0] 26 :: []) := hH15
  have one1 : v1.oneCell' = true := by obtain ⟨_, _, e, _⟩ := Sl.form h_1; rw [e]; rfl
  have one2 : v2.oneCell' = true := by obtain ⟨_, _, e, _⟩ := Sl.form h_2; rw [e]; rfl
  have one3 : v3.oneCell' = true := by obtain ⟨_, _, e, _⟩ := Sl.form h_3; rw [e]; rfl
  refine V_storeC (Dw := False) (off := 0) (ds := [v1, v2, v3]) hH (i := 2) rfl Tryz.sizeOf26 rfl (Nat.le_of_ble_eq_true rfl) (by exact (List.forall_mem_cons.2 ⟨one1, (List.forall_mem_cons.2 ⟨one2, (List.forall_mem_cons.2 ⟨one3, (fun _ h => nomatch h)⟩)⟩)⟩)) rfl hB hA rfl rfl ?_
  intro w16 hH16 ht16
  replace h_1 := Sl.tr (Dw := False) h_1 ht16
  replace h_2 := Sl.tr (Dw := False) h_2 ht16
  replace h_3 := Sl.tr (Dw := False) h_3 ht16
  replace hK := Tr.trans (Dw := False) hK ht16
  replace hH : Hp w.heap.size A15 w16 (obC b_m [.map (some mb)] 178 :: obC b_x [v1, v2, v3] 26 :: obC b_r [v1, v2, v3] 26 :: []) := hH16
  refine V_to (fun _ _ => rfl) ?_
  refine C_ret ?_
  try simp only [↓inBlock_ret, ↓then_ret]
  exact retQ rfl (Res.l1 Tryz.results17 (RL.cell rfl (loadVar_agg (Hp.part (off := 0) (n := 3) (ds := [v1, v2, v3]) hH (i := 2) rfl rfl) Tryz.isAgg26 Tryz.sizeOf26))) ⟨v1, v2, v3, rfl, (Sl.out (Dw := False) h_1 hA0 hK), (Sl.out (Dw := False) h_2 hA0 hK), (Sl.out (Dw := False) h_3 hA0 hK), hK.kp⟩

set_option maxRecDepth 4000 in
set_option maxHeartbeats 4000000 in
theorem portref2_IndexOf_c (w : World) {A : Nat → Prop} (hA : ∀ b, w.heap.size ≤ b → A b) (hT : Mx Tryz.prog 0 A w) (l : (List know_Entry)) (v_l : Value) (h_l : Sl A w v_l l) {r : (know_Index × Int)} (hm : portref2_IndexOf l = some r) : Ret Tryz.prog 6 #[v_l] w fun v w' => ∃ s0 s1 s2, v = .tuple #[.agg #[s0, s1, s2], .int .i64 r.2] ∧ Sl A w' s0 r.1.ids ∧ Sl A w' s1 r.1.sizes ∧ Sl A w' s2 r.1.terms ∧ Kp False w w' := by
  unfold portref2_IndexOf at hm
  refine enter Tryz.func6 rfl Tryz.ntmps6 rfl ?_
  have hA0 := hA
  have hB := Nat.le_refl w.heap.size
  have hK : Tr False w.heap.size A w A w := Tr.refl (Dw := False) hA
  have hH : Hp w.heap.size A w [] := Hp.nil
  refine C_seq ?_
  refine C_region ?_
  refine V_allocH (Dw := False) (B := w.heap.size) hH Tryz.zeroValue26 hB hA rfl ?_
  intro b3 w4 A5 hH6 ht7
  replace h_l := Sl.tr (Dw := False) h_l ht7
  replace hK := Tr.trans (Dw := False) hK ht7
  replace hB := Nat.le_trans hB ht7.ex.size
  replace hA := ht7.new
  replace hH : Hp w.heap.size A5 w4 (obC b3 [.slice none 0 0, .slice none 0 0, .slice none 0 0] 26 :: []) := hH6
  refine V_y (Y_assign rfl) rfl rfl rfl ?_
  refine V_to (fun _ _ => rfl) ?_
  refine C_seq ?_
  refine C_seq ?_
  refine C_region ?_
  refine V_y (Y_move rfl) rfl rfl rfl ?_
  refine V_y (Y_lenSl h_l rfl Tryz.underlying22 rfl) rfl rfl rfl ?_
  refine V_y (Y_gtr rfl rfl) rfl rfl rfl ?_
  refine V_to (fun _ _ => rfl) ?_
  refine C_cond rfl (fun hc8 => ?_) (fun hc8 => ?_)
  · rw [if_pos hc8] at hm
    refine C_seq ?_
    refine C_region ?_
    refine V_y (Y_build Tryz.underlying26 Tryz.zeroValue26 (Tryz_places26 _ Tryz.underlying26) rfl (by with_unfolding_all rfl)) rfl rfl rfl ?_
    refine V_storeC (Dw := False) (off := 0) (ds := [.slice none 0 0, .slice none 0 0, .slice none 0 0]) hH (i := 0) rfl Tryz.sizeOf26 rfl (Nat.le_of_ble_eq_true rfl) (by exact (List.forall_mem_cons.2 ⟨rfl, (List.forall_mem_cons.2 ⟨rfl, (List.forall_mem_cons.2 ⟨rfl, (fun _ h => nomatch h)⟩)⟩)⟩)) rfl hB hA rfl rfl ?_
    intro w9 hH10 ht11
    replace h_l := Sl.tr (Dw := False) h_l ht11
    replace hK := Tr.trans (Dw := False) hK ht11
    replace hB := Nat.le_trans hB ht11.ex.size
    replace hA := ht11.new
    replace hH : Hp w.heap.size A5 w9 (obC b3 [.slice none 0 0, .slice none 0 0, .slice none 0 0] 26 :: []) := hH10
    refine V_y (Y_assign rfl) rfl rfl rfl ?_
    refine V_to (fun _ _ => rfl) ?_
    obtain rfl := Option.some.inj hm
    refine C_ret ?_
    try simp only [↓inBlock_ret, ↓then_ret]
    exact retQ rfl (Res.l2 Tryz.results6 (RL.cell rfl (loadVar_agg (Hp.part (off := 0) (n := 3) (ds := [.slice none 0 0, .slice none 0 0, .slice none 0 0]) hH (i := 0) rfl rfl) Tryz.isAgg26 Tryz.sizeOf26)) (RL.tmp rfl)) ⟨.slice none 0 0, .slice none 0 0, .slice none 0 0, rfl, Sl.nil, Sl.nil, Sl.nil, hK.kp⟩
  · rw [if_neg (nt hc8)] at hm
    refine C_skip_to (fun _ _ => rfl) ?_
    refine C_seq ?_
    refine C_seq ?_
    refine C_region ?_
    refine V_y (Y_move rfl) rfl rfl rfl ?_
    refine V_y (Y_lenSl h_l rfl Tryz.underlying22 rfl) rfl rfl rfl ?_
    refine V_y (Y_move rfl) rfl rfl rfl ?_
    refine V_to (fun _ _ => rfl) ?_
    have hn45 := Sl.le h_l
    obtain ⟨o12, ho12, hm⟩ := Option.bind_eq_some_iff.1 hm
    refine C_cutG (ι := (know_Index × Value × Value × Value × (Nat → Prop))) (fun ⟨s13, v20, v22, v24, A26⟩ => [(0, v_l), (2, .pointer (some ⟨b3, 0, none⟩))]) (fun ⟨s13, v20, v22, v24, A26⟩ => fun w' => o12 = .fin s13 ∧ Sl A26 w' v20 s13.ids ∧ Sl A26 w' v22 s13.sizes ∧ Sl A26 w' v24 s13.terms ∧ Hp w.heap.size A26 w' (obC b3 [v20, v22, v24] 26 :: []) ∧ Tr False w.heap.size A5 w4 A26 w') ?_ ?_
    · refine C_block ?_
      refine C_range ho12 (fun k15 s28 a w' => ∃ i : (Value × Value × Value × (Nat → Prop)), Has ⟨50, [], none⟩ a ([(0, v_l), (2, .pointer (some ⟨b3, 0, none⟩)), (11, v_l), (12, .int .i64 (l.length : Int)), (13, .int .i64 (k15 : Int))]) ∧ Sl i.2.2.2 w' i.1 s28.ids ∧ Sl i.2.2.2 w' i.2.1 s28.sizes ∧ Sl i.2.2.2 w' i.2.2.1 s28.terms ∧ Hp w.heap.size i.2.2.2 w' (obC b3 [i.1, i.2.1, i.2.2.1] 26 :: []) ∧ Tr False w.heap.size A5 w4 i.2.2.2 w') (fun a ha => ⟨(.slice none 0 0, .slice none 0 0, .slice none 0 0, A5), ha.sub ⟨rfl, rfl, rfl, rfl, rfl, trivial⟩, ⟨Sl.nil, Sl.nil, Sl.nil, hH, Tr.refl (Dw := False) hA⟩⟩) ?_
      rintro K k15 s28 a w29 ⟨⟨v30, v32, v34, A36⟩, ha94, h31, h33, h35, hH37, hr14⟩ hle41 K44 h43
      refine C_of ?_ ha94
      replace h_l := Sl.tr (Dw := False) h_l hr14
      replace hK := Tr.trans (Dw := False) hK hr14
      replace hB := Nat.le_trans hB hr14.ex.size
      replace hA := hr14.new
      replace hH : Hp w.heap.size A36 w29 (obC b3 [v30, v32, v34] 26 :: []) := hH37
      refine C_seq (C_region (V_y (Y_lss rfl rfl) rfl rfl rfl (V_to (fun _ _ => rfl) ?_)))
      refine C_seq ?_
      refine C_cond rfl (fun hc46 => ?_) (fun hc46 => ?_)
      · have hlt42 := lt_of_dec hc46
        obtain ⟨x38, h39, h40⟩ := K44 hlt42
        refine C_skip_to (fun _ _ => rfl) ?_
        refine C_seq ?_
        refine C_block ?_
        refine C_seq ?_
        refine C_region ?_
        refine V_y (Y_move rfl) rfl rfl rfl ?_
        obtain ⟨x47, hx47, h39⟩ := Option.bind_eq_some_iff.1 h39
        refine V_indexAddr h_l hx47 Tryz.underlying22 Tryz.sizeOf33 rfl rfl rfl ?_
        intro b48 o49 h50
        obtain ⟨h51, _⟩ := El_know_Entry h50
        refine V_y (Y_loadA h51 Tryz.isAgg33 Tryz.sizeOf33 rfl) rfl rfl rfl ?_
        refine V_alloc Tryz.zeroValue33 rfl ?_
        intro b52 w53 h54
        refine V_y (Y_assign rfl) rfl rfl rfl ?_
        refine V_storeNew h54 Tryz.sizeOf33 rfl rfl rfl rfl (by exact (List.forall_mem_cons.2 ⟨rfl, (List.forall_mem_cons.2 ⟨rfl, (List.forall_mem_cons.2 ⟨rfl, (fun _ h => nomatch h)⟩)⟩)⟩)) ?_
        intro w55 h56
        have hk58 := h56.kp (Dw := False)
        have h57 : El (α := know_Entry) A36 w55 b52 0 x47 := h56.el hA ⟨[.int .i64 x47.id_], _, rfl, rfl, ⟨[.string x47.title], _, rfl, rfl, rfl⟩⟩
        have ht59 := Kp.tr (Dw := False) hk58 hA hB
        replace hH := Hp.kp (Dw := False) hH hk58
        replace h_l := Sl.tr (Dw := False) h_l ht59
        replace h50 := El.tr (Dw := False) h50 ht59
        replace h31 := Sl.tr (Dw := False) h31 ht59
        replace h33 := Sl.tr (Dw := False) h33 ht59
        replace h35 := Sl.tr (Dw := False) h35 ht59
        replace hK := Tr.trans (Dw := False) hK ht59
        replace hr14 := Tr.trans (Dw := False) hr14 ht59
        replace hB := Nat.le_trans hB ht59.ex.size
        replace hA := ht59.new
        refine V_to (fun _ _ => rfl) ?_
        refine C_seq ?_
        refine C_seq ?_
        refine C_region ?_
        have h60 := El_know_Entry_0 h57
        refine V_y (Y_fieldAddr Tryz.underlying33 rfl Tryz.sizeOf3 (by decide) rfl) rfl rfl rfl ?_
        refine V_y (Y_load (El.int h60) Tryz.isAgg3 rfl) rfl rfl rfl ?_
        refine V_y (Y_lss rfl rfl) rfl rfl rfl ?_
        refine V_y (Y_move rfl) rfl rfl rfl ?_
        refine V_cut 4 (fun _ : Unit => [(0, v_l), (2, .pointer (some ⟨b3, 0, none⟩)), (4, .int .i64 (k15 : Int)), (5, .pointer (some ⟨b52, 0, none⟩)), (11, v_l), (12, .int .i64 (l.length : Int)), (13, .int .i64 (k15 : Int)), (25, .bool ((decide (x47.id_ < 1)) || (decide ((3000000 : Int) < x47.id_))))]) (fun _ w' => w55 = w') ?_ ?_
        · simp only [List.take, List.drop]
          rcases Bool.eq_false_or_eq_true (decide (x47.id_ < 1)) with hc61 | hc61
          · refine V_gn rfl rfl rfl hc61 rfl rfl rfl ?_
            refine V_gn rfl rfl rfl hc61 rfl rfl rfl ?_
            refine V_gn rfl rfl rfl hc61 rfl rfl rfl ?_
            refine V_y (Y_pick_te rfl hc61 rfl) rfl rfl rfl ?_
            exact V_end fun a ha => ⟨(), ha.sub ⟨rfl, rfl, rfl, rfl, rfl, rfl, rfl, (by rw [hc61]; rfl), trivial⟩, rfl⟩
          · refine V_ge rfl rfl rfl hc61 ?_
            have h63 := El_know_Entry_0 h57
            refine V_y (Y_fieldAddr Tryz.underlying33 rfl Tryz.sizeOf3 (by decide) rfl) rfl rfl rfl ?_
            refine V_ge rfl rfl rfl hc61 ?_
            refine V_y (Y_load (El.int h63) Tryz.isAgg3 rfl) rfl rfl rfl ?_
            refine V_ge rfl rfl rfl hc61 ?_
            refine V_y (Y_gtr rfl rfl) rfl rfl rfl ?_
            refine V_y (Y_pick_fe rfl hc61 rfl) rfl rfl rfl ?_
            exact V_end fun a ha => ⟨(), ha.sub ⟨rfl, rfl, rfl, rfl, rfl, rfl, rfl, (by rw [hc61]; rfl), trivial⟩, rfl⟩
        simp only [List.take, List.drop]
        rintro _ _ rfl
        refine V_to (fun _ _ => rfl) ?_
        refine C_cond rfl (fun hc64 => ?_) (fun hc64 => ?_)
        · rw [if_pos hc64] at h39
          refine C_seq ?_
          refine C_region ?_
          refine V_y (Y_build Tryz.underlying26 Tryz.zeroValue26 (Tryz_places26 _ Tryz.underlying26) rfl (by with_unfolding_all rfl)) rfl rfl rfl ?_
          refine V_storeC (Dw := False) (off := 0) (ds := [.slice none 0 0, .slice none 0 0, .slice none 0 0]) hH (i := 0) rfl Tryz.sizeOf26 rfl (Nat.le_of_ble_eq_true rfl) (by exact (List.forall_mem_cons.2 ⟨rfl, (List.forall_mem_cons.2 ⟨rfl, (List.forall_mem_cons.2 ⟨rfl, (fun _ h => nomatch h)⟩)⟩)⟩)) rfl hB hA rfl rfl ?_
          intro w65 hH66 ht67
          replace h_l := Sl.tr (Dw := False) h_l ht67
          replace h57 := El.tr (Dw := False) h57 ht67
          replace h31 := Sl.tr (Dw := False) h31 ht67
          replace h33 := Sl.tr (Dw := False) h33 ht67
          replace h35 := Sl.tr (Dw := False) h35 ht67
          replace hK := Tr.trans (Dw := False) hK ht67
          replace hr14 := Tr.trans (Dw := False) hr14 ht67
          replace hB := Nat.le_trans hB ht67.ex.size
          replace hA := ht67.new
          replace hH : Hp w.heap.size A36 w65 (obC b3 [.slice none 0 0, .slice none 0 0, .slice none 0 0] 26 :: []) := hH66
          refine V_y (Y_assign rfl) rfl rfl rfl ?_
          refine V_to (fun _ _ => rfl) ?_
          obtain rfl := Option.some.inj h39
          obtain rfl := (h40 : Lp.rt _ = _)
          rw [Lp.andThen_rt] at hm
          obtain rfl := Option.some.inj hm
          refine C_ret ?_
          try simp only [↓inBlock_ret, ↓then_ret]
          exact retQ rfl (Res.l2 Tryz.results6 (RL.cell rfl (loadVar_agg (Hp.part (off := 0) (n := 3) (ds := [.slice none 0 0, .slice none 0 0, .slice none 0 0]) hH (i := 0) rfl rfl) Tryz.isAgg26 Tryz.sizeOf26)) (RL.tmp rfl)) ⟨.slice none 0 0, .slice none 0 0, .slice none 0 0, rfl, Sl.nil, Sl.nil, Sl.nil, hK.kp⟩
        · rw [if_neg (nt hc64)] at h39
          refine C_skip_to (fun _ _ => rfl) ?_
          refine C_seq ?_
          refine C_seq ?_
          refine C_region_q (Dw := False) Tryz_mixed (by kernel_rfl) ?_
          refine VQ_y (fun w' hw' => Y_move rfl) rfl rfl rfl ?_
          refine VQ_y (fun w' hw' => Y_gtr rfl rfl) rfl rfl rfl ?_
          refine VQ_y (fun w' hw' => Y_move rfl) rfl rfl rfl ?_
          obtain ⟨s69, hs69, h39⟩ := Option.bind_eq_some_iff.1 h39
          refine VQ_cut 10 (fun _ : Unit => [(0, v_l), (2, .pointer (some ⟨b3, 0, none⟩)), (5, .pointer (some ⟨b52, 0, none⟩)), (11, v_l), (12, .int .i64 (l.length : Int)), (13, .int .i64 (k15 : Int)), (39, .bool s69)]) (fun _ => True) ?_ ?_
          · simp only [List.take, List.drop]
            rcases Bool.eq_false_or_eq_true (decide ((0 : Int) < (k15 : Int))) with hc68 | hc68
            · rw [if_pos hc68] at hs69
              refine VQ_ge rfl rfl rfl hc68 ?_
              have h70 := El_know_Entry_0 h57
              refine VQ_y (fun w' hw' => Y_fieldAddr Tryz.underlying33 rfl Tryz.sizeOf3 (by decide) rfl) rfl rfl rfl ?_
              refine VQ_ge rfl rfl rfl hc68 ?_
              refine VQ_y (fun w' hw' => Y_load (El.int (El.kp (Dw := False) h70 hw')) Tryz.isAgg3 rfl) rfl rfl rfl ?_
              refine VQ_ge rfl rfl rfl hc68 ?_
              refine VQ_y (fun w' hw' => Y_move rfl) rfl rfl rfl ?_
              refine VQ_ge rfl rfl rfl hc68 ?_
              refine VQ_y (fun w' hw' => Y_move rfl) rfl rfl rfl ?_
              refine VQ_ge rfl rfl rfl hc68 ?_
              refine VQ_y (fun w' hw' => Y_subI rfl rfl) rfl rfl rfl ?_
              refine VQ_ge rfl rfl rfl hc68 ?_
              obtain ⟨x71, hx71, hs69⟩ := Option.bind_eq_some_iff.1 hs69
              refine VQ_indexAddr h_l hx71 Tryz.underlying22 Tryz.sizeOf33 rfl rfl rfl ?_
              intro b72 o73 h74
              refine VQ_ge rfl rfl rfl hc68 ?_
              have h75 := El_know_Entry_0 h74
              refine VQ_y (fun w' hw' => Y_fieldAddr Tryz.underlying33 rfl Tryz.sizeOf3 (by decide) rfl) rfl rfl rfl ?_
              refine VQ_ge rfl rfl rfl hc68 ?_
              refine VQ_y (fun w' hw' => Y_load (El.int (El.kp (Dw := False) h75 hw')) Tryz.isAgg3 rfl) rfl rfl rfl ?_
              refine VQ_ge rfl rfl rfl hc68 ?_
              refine VQ_y (fun w' hw' => Y_leq rfl rfl) rfl rfl rfl ?_
              refine VQ_y (fun _ _ => Y_pick_te rfl hc68 rfl) rfl rfl rfl ?_
              obtain rfl := Option.some.inj hs69
              exact VQ_end fun a ha => ⟨(), ha.sub ⟨rfl, rfl, rfl, rfl, rfl, rfl, rfl, trivial⟩, trivial⟩
            · rw [if_neg (nt hc68)] at hs69
              refine VQ_gn rfl rfl rfl hc68 rfl rfl rfl ?_
              refine VQ_gn rfl rfl rfl hc68 rfl rfl rfl ?_
              refine VQ_gn rfl rfl rfl hc68 rfl rfl rfl ?_
              refine VQ_gn rfl rfl rfl hc68 rfl rfl rfl ?_
              refine VQ_gn rfl rfl rfl hc68 rfl rfl rfl ?_
              refine VQ_gn rfl rfl rfl hc68 rfl rfl rfl ?_
              refine VQ_gn rfl rfl rfl hc68 rfl rfl rfl ?_
              refine VQ_gn rfl rfl rfl hc68 rfl rfl rfl ?_
              refine VQ_gn rfl rfl rfl hc68 rfl rfl rfl ?_
              refine VQ_y (fun _ _ => Y_pick_fe rfl hc68 rfl) rfl rfl rfl ?_
              obtain rfl := Option.some.inj hs69
              exact VQ_end fun a ha => ⟨(), ha.sub ⟨rfl, rfl, rfl, rfl, rfl, rfl, rfl, trivial⟩, trivial⟩
          simp only [List.take, List.drop]
          rintro _ _
          refine VQ_to (fun _ _ => rfl) (fun w76 hk77 => ?_)
          have ht78 := Kp.tr (Dw := False) hk77 hA hB
          replace hH := Hp.kp (Dw := False) hH hk77
          replace h_l := Sl.tr (Dw := False) h_l ht78
          replace h57 := El.tr (Dw := False) h57 ht78
          replace h31 := Sl.tr (Dw := False) h31 ht78
          replace h33 := Sl.tr (Dw := False) h33 ht78
          replace h35 := Sl.tr (Dw := False) h35 ht78
          replace hK := Tr.trans (Dw := False) hK ht78
          replace hr14 := Tr.trans (Dw := False) hr14 ht78
          replace hB := Nat.le_trans hB ht78.ex.size
          replace hA := ht78.new
          refine C_cond rfl (fun hc79 => ?_) (fun hc79 => ?_)
          · rw [if_pos hc79] at h39
            refine C_seq ?_
            refine C_region ?_
            refine V_y (Y_build Tryz.underlying26 Tryz.zeroValue26 (Tryz_places26 _ Tryz.underlying26) rfl (by with_unfolding_all rfl)) rfl rfl rfl ?_
            refine V_storeC (Dw := False) (off := 0) (ds := [.slice none 0 0, .slice none 0 0, .slice none 0 0]) hH (i := 0) rfl Tryz.sizeOf26 rfl (Nat.le_of_ble_eq_true rfl) (by exact (List.forall_mem_cons.2 ⟨rfl, (List.forall_mem_cons.2 ⟨rfl, (List.forall_mem_cons.2 ⟨rfl, (fun _ h => nomatch h)⟩)⟩)⟩)) rfl hB hA rfl rfl ?_
            intro w80 hH81 ht82
            replace h_l := Sl.tr (Dw := False) h_l ht82
            replace h57 := El.tr (Dw := False) h57 ht82
            replace h31 := Sl.tr (Dw := False) h31 ht82
            replace h33 := Sl.tr (Dw := False) h33 ht82
            replace h35 := Sl.tr (Dw := False) h35 ht82
            replace hK := Tr.trans (Dw := False) hK ht82
            replace hr14 := Tr.trans (Dw := False) hr14 ht82
            replace hB := Nat.le_trans hB ht82.ex.size
            replace hA := ht82.new
            replace hH : Hp w.heap.size A36 w80 (obC b3 [.slice none 0 0, .slice none 0 0, .slice none 0 0] 26 :: []) := hH81
            refine V_y (Y_assign rfl) rfl rfl rfl ?_
            refine V_to (fun _ _ => rfl) ?_
            obtain rfl := Option.some.inj h39
            obtain rfl := (h40 : Lp.rt _ = _)
            rw [Lp.andThen_rt] at hm
            obtain rfl := Option.some.inj hm
            refine C_ret ?_
            try simp only [↓inBlock_ret, ↓then_ret]
            exact retQ rfl (Res.l2 Tryz.results6 (RL.cell rfl (loadVar_agg (Hp.part (off := 0) (n := 3) (ds := [.slice none 0 0, .slice none 0 0, .slice none 0 0]) hH (i := 0) rfl rfl) Tryz.isAgg26 Tryz.sizeOf26)) (RL.tmp rfl)) ⟨.slice none 0 0, .slice none 0 0, .slice none 0 0, rfl, Sl.nil, Sl.nil, Sl.nil, hK.kp⟩
          · rw [if_neg (nt hc79)] at h39
            refine C_skip_to (fun _ _ => rfl) ?_
            refine C_seq ?_
            refine C_region ?_
            obtain ⟨h83, _⟩ := El_know_Entry h57
            refine V_y (Y_loadA h83 Tryz.isAgg33 Tryz.sizeOf33 rfl) rfl rfl rfl ?_
            obtain ⟨x84, hx84, h39⟩ := Option.bind_eq_some_iff.1 h39
            refine V_call Tryz.call16 rfl rfl rfl rfl (portref2_entryFault_c w76 hA (Mx.tr (Dw := False) hT hK) x47 hx84) ?_
            rintro _ w85 ⟨rfl, hk86⟩
            have ht87 := Kp.tr (Dw := False) hk86 hA hB
            replace hH := Hp.kp (Dw := False) hH hk86
            replace h_l := Sl.tr (Dw := False) h_l ht87
            replace h57 := El.tr (Dw := False) h57 ht87
            replace h31 := Sl.tr (Dw := False) h31 ht87
            replace h33 := Sl.tr (Dw := False) h33 ht87
            replace h35 := Sl.tr (Dw := False) h35 ht87
            replace hK := Tr.trans (Dw := False) hK ht87
            replace hr14 := Tr.trans (Dw := False) hr14 ht87
            replace hB := Nat.le_trans hB ht87.ex.size
            replace hA := ht87.new
            refine V_y (Y_assign rfl) rfl rfl rfl ?_
            refine V_to (fun _ _ => rfl) ?_
            refine C_seq ?_
            refine C_region ?_
            refine V_y (Y_move rfl) rfl rfl rfl ?_
            refine V_y (Y_neq rfl rfl) rfl rfl rfl ?_
            refine V_to (fun _ _ => rfl) ?_
            refine C_cond rfl (fun hc88 => ?_) (fun hc88 => ?_)
            · rw [if_pos hc88] at h39
              refine C_seq ?_
              refine C_region ?_
              refine V_y (Y_build Tryz.underlying26 Tryz.zeroValue26 (Tryz_places26 _ Tryz.underlying26) rfl (by with_unfolding_all rfl)) rfl rfl rfl ?_
              refine V_y (Y_move rfl) rfl rfl rfl ?_
              refine V_storeC (Dw := False) (off := 0) (ds := [.slice none 0 0, .slice none 0 0, .slice none 0 0]) hH (i := 0) rfl Tryz.sizeOf26 rfl (Nat.le_of_ble_eq_true rfl) (by exact (List.forall_mem_cons.2 ⟨rfl, (List.forall_mem_cons.2 ⟨rfl, (List.forall_mem_cons.2 ⟨rfl, (fun _ h => nomatch h)⟩)⟩)⟩)) rfl hB hA rfl rfl ?_
              intro w89 hH90 ht91
              replace h_l := Sl.tr (Dw := False) h_l ht91
              replace h31 := Sl.tr (Dw := False) h31 ht91
              replace h33 := Sl.tr (Dw := False) h33 ht91
              replace h35 := Sl.tr (Dw := False) h35 ht91
              replace hK := Tr.trans (Dw := False) hK ht91
              replace hr14 := Tr.trans (Dw := False) hr14 ht91
              replace hB := Nat.le_trans hB ht91.ex.size
              replace hA := ht91.new
              replace hH : Hp w.heap.size A36 w89 (obC b3 [.slice none 0 0, .slice none 0 0, .slice none 0 0] 26 :: []) := hH90
              refine V_y (Y_assign rfl) rfl rfl rfl ?_
              refine V_to (fun _ _ => rfl) ?_
              obtain rfl := Option.some.inj h39
              obtain rfl := (h40 : Lp.rt _ = _)
              rw [Lp.andThen_rt] at hm
              obtain rfl := Option.some.inj hm
              refine C_ret ?_
              try simp only [↓inBlock_ret, ↓then_ret]
              exact retQ rfl (Res.l2 Tryz.results6 (RL.cell rfl (loadVar_agg (Hp.part (off := 0) (n := 3) (ds := [.slice none 0 0, .slice none 0 0, .slice none 0 0]) hH (i := 0) rfl rfl) Tryz.isAgg26 Tryz.sizeOf26)) (RL.tmp rfl)) ⟨.slice none 0 0, .slice none 0 0, .slice none 0 0, rfl, Sl.nil, Sl.nil, Sl.nil, hK.kp⟩
            · rw [if_neg (nt hc88)] at h39
              refine C_skip_to (fun _ _ => rfl) ?_
              refine C_region ?_
              refine V_y (Y_addI rfl rfl) rfl rfl rfl ?_
              refine V_y (Y_move rfl) rfl rfl rfl ?_
              obtain rfl := Option.some.inj h39
              refine V_end (fun a ha92 => ?_)
              exact ⟨s28, hlt42, h40, ⟨(v30, v32, v34, A36), ha92.sub ⟨rfl, rfl, rfl, rfl, (congrArg (fun z => some (Value.int .i64 z)) (w64_succ hlt42 hn45)), trivial⟩, ⟨h31, h33, h35, hH, hr14⟩⟩⟩
      · refine C_exit (fun a ha93 => ?_)
        exact ⟨(s28, v30, v32, v34, A36), ha93.sub ⟨rfl, rfl, trivial⟩, ⟨(h43 (eq_of_dec hle41 hc46)).symm, h31, h33, h35, hH, hr14⟩⟩
    rintro ⟨s13, v20, v22, v24, A26⟩ w17 ⟨rfl, h21, h23, h25, hH27, hk18⟩ a ha19
    rw [Lp.andThen_fin] at hm
    replace h_l := Sl.tr (Dw := False) h_l hk18
    replace hK := Tr.trans (Dw := False) hK hk18
    replace hB := Nat.le_trans hB hk18.ex.size
    replace hA := hk18.new
    replace hH : Hp w.heap.size A26 w17 (obC b3 [v20, v22, v24] 26 :: []) := hH27
    refine C_at (n := ⟨50, [], none⟩) (fun _ _ => rfl) ?_ ha19
    refine C_seq ?_
    refine C_region ?_
    refine V_y (Y_move rfl) rfl rfl rfl ?_
    obtain ⟨x95, hx95, hm⟩ := Option.bind_eq_some_iff.1 hm
    refine V_call Tryz.call17 rfl rfl rfl rfl (portref2_indexOf_c w17 hA l v_l h_l hx95) ?_
    rintro _ w102 ⟨v96, v98, v100, rfl, h97, h99, h101, hk103⟩
    have ht104 := Kp.tr (Dw := False) hk103 hA hB
    replace hH := Hp.kp (Dw := False) hH hk103
    replace h_l := Sl.tr (Dw := False) h_l ht104
    replace h21 := Sl.tr (Dw := False) h21 ht104
    replace h23 := Sl.tr (Dw := False) h23 ht104
    replace h25 := Sl.tr (Dw := False) h25 ht104
    replace hK := Tr.trans (Dw := False) hK ht104
    replace hB := Nat.le_trans hB ht104.ex.size
    replace hA := ht104.new
    have h110 : (v96).oneCell' = true := by obtain ⟨_, _, e, _⟩ := Sl.form h97; rw [e]; rfl
    have h113 : (v98).oneCell' = true := by obtain ⟨_, _, e, _⟩ := Sl.form h99; rw [e]; rfl
    have h116 : (v100).oneCell' = true := by obtain ⟨_, _, e, _⟩ := Sl.form h101; rw [e]; rfl
    refine V_storeC (Dw := False) (off := 0) (ds := [v96, v98, v100]) hH (i := 0) rfl Tryz.sizeOf26 rfl (Nat.le_of_ble_eq_true rfl) (by exact (List.forall_mem_cons.2 ⟨h110, (List.forall_mem_cons.2 ⟨h113, (List.forall_mem_cons.2 ⟨h116, (fun _ h => nomatch h)⟩)⟩)⟩)) rfl hB hA rfl rfl ?_
    intro w105 hH106 ht107
    replace h_l := Sl.tr (Dw := False) h_l ht107
    replace h97 := Sl.tr (Dw := False) h97 ht107
    replace h99 := Sl.tr (Dw := False) h99 ht107
    replace h101 := Sl.tr (Dw := False) h101 ht107
    replace h21 := Sl.tr (Dw := False) h21 ht107
    replace h23 := Sl.tr (Dw := False) h23 ht107
    replace h25 := Sl.tr (Dw := False) h25 ht107
    replace hK := Tr.trans (Dw := False) hK ht107
    replace hB := Nat.le_trans hB ht107.ex.size
    replace hA := ht107.new
    replace hH : Hp w.heap.size A26 w105 (obC b3 [v96, v98, v100] 26 :: []) := hH106
    refine V_y (Y_assign rfl) rfl rfl rfl ?_
    refine V_to (fun _ _ => rfl) ?_
    obtain rfl := Option.some.inj hm
    refine C_ret ?_
    try simp only [↓inBlock_ret, ↓then_ret]
    exact retQ rfl (Res.l2 Tryz.results6 (RL.cell rfl (loadVar_agg (Hp.part (off := 0) (n := 3) (ds := [v96, v98, v100]) hH (i := 0) rfl rfl) Tryz.isAgg26 Tryz.sizeOf26)) (RL.tmp rfl)) ⟨v96, v98, v100, rfl, (Sl.out (Dw := False) h97 hA0 hK), (Sl.out (Dw := False) h99 hA0 hK), (Sl.out (Dw := False) h101 hA0 hK), hK.kp⟩

set_option maxRecDepth 4000 in
set_option maxHeartbeats 4000000 in
theorem slices_Equal_Lint_int_c (w : World) {A : Nat → Prop} (hA : ∀ b, w.heap.size ≤ b → A b) (s1 : (List Int)) (v_s1 : Value) (h_s1 : Sl A w v_s1 s1) (s2 : (List Int)) (v_s2 : Value) (h_s2 : Sl A w v_s2 s2) {r : Bool} (hm : slices_Equal_Lint_int s1 s2 = some r) : Ret Tryz.prog 28 #[v_s1, v_s2] w fun v w' => v = .bool r ∧ Kp Dw w w' := by
  unfold slices_Equal_Lint_int at hm
  refine enter Tryz.func28 rfl Tryz.ntmps28 rfl ?_
  have hA0 := hA
  have hB := Nat.le_refl w.heap.size
  have hK : Tr Dw w.heap.size A w A w := Tr.refl (Dw := Dw) hA
  have hH : Hp w.heap.size A w [] := Hp.nil
  refine C_seq ?_
  refine C_region ?_
  refine V_y (Y_assign rfl) rfl rfl rfl ?_
  refine V_to (fun _ _ => rfl) ?_
  refine C_seq ?_
  refine C_seq ?_
  refine C_region ?_
  refine V_y (Y_move rfl) rfl rfl rfl ?_
  refine V_y (Y_lenSl h_s1 rfl Tryz.underlying23 rfl) rfl rfl rfl ?_
  refine V_y (Y_move rfl) rfl rfl rfl ?_
  refine V_y (Y_lenSl h_s2 rfl Tryz.underlying23 rfl) rfl rfl rfl ?_
  refine V_y (Y_neq rfl rfl) rfl rfl rfl ?_
  refine V_to (fun _ _ => rfl) ?_
  refine C_cond rfl (fun hc5 => ?_) (fun hc5 => ?_)
  · rw [if_pos hc5] at hm
    refine C_seq ?_
    refine C_region ?_
    refine V_y (Y_assign rfl) rfl rfl rfl ?_
    refine V_to (fun _ _ => rfl) ?_
    obtain rfl := Option.some.inj hm
    refine C_ret ?_
    try simp only [↓inBlock_ret, ↓then_ret]
    exact retQ rfl (Res.one Tryz.results28 rfl) ⟨rfl, hK.kp⟩
  · rw [if_neg (nt hc5)] at hm
    refine C_skip_to (fun _ _ => rfl) ?_
    refine C_seq ?_
    refine C_seq ?_
    refine C_region ?_
    refine V_y (Y_move rfl) rfl rfl rfl ?_
    refine V_y (Y_lenSl h_s1 rfl Tryz.underlying23 rfl) rfl rfl rfl ?_
    refine V_y (Y_move rfl) rfl rfl rfl ?_
    refine V_to (fun _ _ => rfl) ?_
    have hn27 := Sl.le h_s1
    obtain ⟨o6, ho6, hm⟩ := Option.bind_eq_some_iff.1 hm
    refine C_cutG (ι := (Unit × (Nat → Prop))) (fun ⟨s7, A13⟩ => []) (fun ⟨s7, A13⟩ => fun w' => o6 = .fin s7 ∧ Hp w.heap.size A13 w' ([]) ∧ Tr Dw w.heap.size A w A13 w') ?_ ?_
    · refine C_block ?_
      refine C_range ho6 (fun k9 _ a w' => ∃ i : (Nat → Prop), Has ⟨26, [], none⟩ a ([(0, v_s1), (1, v_s2), (12, .int .i64 (s1.length : Int)), (13, .int .i64 (k9 : Int))]) ∧ Hp w.heap.size i w' ([]) ∧ Tr Dw w.heap.size A w i w') (fun a ha => ⟨A, ha.sub ⟨rfl, rfl, rfl, rfl, trivial⟩, ⟨hH, Tr.refl (Dw := Dw) hA⟩⟩) ?_
      rintro K k9 _ a w17 ⟨A18, ha43, hH19, hr8⟩ hle23 K26 h25
      refine C_of ?_ ha43
      replace h_s1 := Sl.tr (Dw := Dw) h_s1 hr8
      replace h_s2 := Sl.tr (Dw := Dw) h_s2 hr8
      replace hK := Tr.trans (Dw := Dw) hK hr8
      replace hB := Nat.le_trans hB hr8.ex.size
      replace hA := hr8.new
      replace hH : Hp w.heap.size A18 w17 ([]) := hH19
      refine C_seq (C_region (V_y (Y_lss rfl rfl) rfl rfl rfl (V_to (fun _ _ => rfl) ?_)))
      refine C_seq ?_
      refine C_cond rfl (fun hc28 => ?_) (fun hc28 => ?_)
      · have hlt24 := lt_of_dec hc28
        obtain ⟨x20, h21, h22⟩ := K26 hlt24
        refine C_skip_to (fun _ _ => rfl) ?_
        refine C_seq ?_
        refine C_block ?_
        refine C_seq ?_
        refine C_region ?_
        refine V_y (Y_move rfl) rfl rfl rfl ?_
        refine V_y (Y_assign rfl) rfl rfl rfl ?_
        refine V_to (fun _ _ => rfl) ?_
        refine C_seq ?_
        refine C_region_q (Dw := Dw) Tryz_mixed (by kernel_rfl) ?_
        refine VQ_y (fun w' hw' => Y_move rfl) rfl rfl rfl ?_
        refine VQ_y (fun w' hw' => Y_move rfl) rfl rfl rfl ?_
        obtain ⟨x29, hx29, h21⟩ := Option.bind_eq_some_iff.1 h21
        refine VQ_indexAddr h_s1 hx29 Tryz.underlying23 Tryz.sizeOf3 rfl rfl rfl ?_
        intro b30 o31 h32
        refine VQ_y (fun w' hw' => Y_load (El.int (El.kp (Dw := Dw) h32 hw')) Tryz.isAgg3 rfl) rfl rfl rfl ?_
        refine VQ_y (fun w' hw' => Y_move rfl) rfl rfl rfl ?_
        refine VQ_y (fun w' hw' => Y_move rfl) rfl rfl rfl ?_
        obtain ⟨x33, hx33, h21⟩ := Option.bind_eq_some_iff.1 h21
        refine VQ_indexAddr h_s2 hx33 Tryz.underlying23 Tryz.sizeOf3 rfl rfl rfl ?_
        intro b34 o35 h36
        refine VQ_y (fun w' hw' => Y_load (El.int (El.kp (Dw := Dw) h36 hw')) Tryz.isAgg3 rfl) rfl rfl rfl ?_
        refine VQ_y (fun w' hw' => Y_neq rfl rfl) rfl rfl rfl ?_
        refine VQ_to (fun _ _ => rfl) (fun w37 hk38 => ?_)
        have ht39 := Kp.tr (Dw := Dw) hk38 hA hB
        replace hH := Hp.kp (Dw := Dw) hH hk38
        replace h_s1 := Sl.tr (Dw := Dw) h_s1 ht39
        replace h_s2 := Sl.tr (Dw := Dw) h_s2 ht39
        replace hK := Tr.trans (Dw := Dw) hK ht39
        replace hr8 := Tr.trans (Dw := Dw) hr8 ht39
        replace hB := Nat.le_trans hB ht39.ex.size
        replace hA := ht39.new
        refine C_cond rfl (fun hc40 => ?_) (fun hc40 => ?_)
        · rw [if_pos hc40] at h21
          refine C_seq ?_
          refine C_region ?_
          refine V_y (Y_assign rfl) rfl rfl rfl ?_
          refine V_to (fun _ _ => rfl) ?_
          obtain rfl := Option.some.inj h21
          obtain rfl := (h22 : Lp.rt _ = _)
          rw [Lp.andThen_rt] at hm
          obtain rfl := Option.some.inj hm
          refine C_ret ?_
          try simp only [↓inBlock_ret, ↓then_ret]
          exact retQ rfl (Res.one Tryz.results28 rfl) ⟨rfl, hK.kp⟩
        · rw [if_neg (nt hc40)] at h21
          refine C_skip_to (fun _ _ => rfl) ?_
          refine C_region ?_
          refine V_y (Y_addI rfl rfl) rfl rfl rfl ?_
          refine V_y (Y_move rfl) rfl rfl rfl ?_
          obtain rfl := Option.some.inj h21
          refine V_end (fun a ha41 => ?_)
          exact ⟨(), hlt24, h22, ⟨A18, ha41.sub ⟨rfl, rfl, rfl, (congrArg (fun z => some (Value.int .i64 z)) (w64_succ hlt24 hn27)), trivial⟩, ⟨hH, hr8⟩⟩⟩
      · refine C_exit (fun a ha42 => ?_)
        exact ⟨((), A18), ha42.sub trivial, ⟨(h25 (eq_of_dec hle23 hc28)).symm, hH, hr8⟩⟩
    rintro ⟨s7, A13⟩ w10 ⟨rfl, hH14, hk11⟩ a ha12
    rw [Lp.andThen_fin] at hm
    replace hK := Tr.trans (Dw := Dw) hK hk11
    replace hB := Nat.le_trans hB hk11.ex.size
    replace hA := hk11.new
    replace hH : Hp w.heap.size A13 w10 ([]) := hH14
    refine C_at (n := ⟨26, [], none⟩) (fun _ _ => rfl) ?_ ha12
    refine C_seq ?_
    refine C_region ?_
    refine V_y (Y_assign rfl) rfl rfl rfl ?_
    refine V_to (fun _ _ => rfl) ?_
    obtain rfl := Option.some.inj hm
    refine C_ret ?_
    try simp only [↓inBlock_ret, ↓then_ret]
    exact retQ rfl (Res.one Tryz.results28 rfl) ⟨rfl, hK.kp⟩

set_option maxRecDepth 4000 in
set_option maxHeartbeats 4000000 in
theorem slices_EqualFunc_Lknow_Term_Lknow_Term_know_Term_know_Term_c (w : World) {A : Nat → Prop} (hA : ∀ b, w.heap.size ≤ b → A b) (s1 : (List know_Term)) (v_s1 : Value) (h_s1 : Sl A w v_s1 s1) (s2 : (List know_Term)) (v_s2 : Value) (h_s2 : Sl A w v_s2 s2) (eq : know_Term → know_Term → Option Bool) (eq_f : FuncId) (eq_a eq_c : Array Value) (eq_call : ∀ (args : Array Value) (w : World), (callFunc eq_f args).run Tryz.prog w = .ok (.enter eq_f args) w) (eq_spec : ∀ (w1 : World) (A1 : Nat → Prop), Tr Dw w.heap.size A w A1 w1 → (∀ b, w1.heap.size ≤ b → A1 b) → ∀ (y0 : know_Term) (v1 : Value) (h2 : Sl A1 w1 v1 y0.list_) (y1 : know_Term) (v3 : Value) (h4 : Sl A1 w1 v3 y1.list_) (r : Bool), eq y0 y1 = some r → Ret Tryz.prog eq_f (eq_a ++ #[.agg #[.string y0.word, v1], .agg #[.string y1.word, v3]] ++ eq_c) w1 fun v w' => v = .bool r ∧ Kp Dw w1 w') {r : Bool} (hm : slices_EqualFunc_Lknow_Term_Lknow_Term_know_Term_know_Term s1 s2 eq = some r) : Ret Tryz.prog 29 #[v_s1, v_s2, .func (.func eq_f) eq_a eq_c] w fun v w' => v = .bool r ∧ Kp Dw w w' := by
  unfold slices_EqualFunc_Lknow_Term_Lknow_Term_know_Term_know_Term at hm
  refine enter Tryz.func29 rfl Tryz.ntmps29 rfl ?_
  have hA0 := hA
  have hB := Nat.le_refl w.heap.size
  have hK : Tr Dw w.heap.size A w A w := Tr.refl (Dw := Dw) hA
  have hH : Hp w.heap.size A w [] := Hp.nil
  refine C_seq ?_
  refine C_region ?_
  refine V_y (Y_assign rfl) rfl rfl rfl ?_
  refine V_to (fun _ _ => rfl) ?_
  refine C_seq ?_
  refine C_seq ?_
  refine C_region ?_
  refine V_y (Y_move rfl) rfl rfl rfl ?_
  refine V_y (Y_lenSl h_s1 rfl Tryz.underlying24 rfl) rfl rfl rfl ?_
  refine V_y (Y_move rfl) rfl rfl rfl ?_
  refine V_y (Y_lenSl h_s2 rfl Tryz.underlying24 rfl) rfl rfl rfl ?_
  refine V_y (Y_neq rfl rfl) rfl rfl rfl ?_
  refine V_to (fun _ _ => rfl) ?_
  refine C_cond rfl (fun hc5 => ?_) (fun hc5 => ?_)
  · rw [if_pos hc5] at hm
    refine C_seq ?_
    refine C_region ?_
    refine V_y (Y_assign rfl) rfl rfl rfl ?_
    refine V_to (fun _ _ => rfl) ?_
    obtain rfl := Option.some.inj hm
    refine C_ret ?_
    try simp only [↓inBlock_ret, ↓then_ret]
    exact retQ rfl (Res.one Tryz.results29 rfl) ⟨rfl, hK.kp⟩
  · rw [if_neg (nt hc5)] at hm
    refine C_skip_to (fun _ _ => rfl) ?_
    refine C_seq ?_
    refine C_seq ?_
    refine C_region ?_
    refine V_y (Y_move rfl) rfl rfl rfl ?_
    refine V_y (Y_lenSl h_s1 rfl Tryz.underlying24 rfl) rfl rfl rfl ?_
    refine V_y (Y_move rfl) rfl rfl rfl ?_
    refine V_to (fun _ _ => rfl) ?_
    have hn27 := Sl.le h_s1
    obtain ⟨o6, ho6, hm⟩ := Option.bind_eq_some_iff.1 hm
    refine C_cutG (ι := (Unit × (Nat → Prop))) (fun ⟨s7, A13⟩ => []) (fun ⟨s7, A13⟩ => fun w' => o6 = .fin s7 ∧ Hp w.heap.size A13 w' ([]) ∧ Tr Dw w.heap.size A w A13 w') ?_ ?_
    · refine C_block ?_
      refine C_range ho6 (fun k9 _ a w' => ∃ i : (Nat → Prop), Has ⟨32, [], none⟩ a ([(1, v_s2), (2, .func (.func eq_f) eq_a eq_c), (15, v_s1), (16, .int .i64 (s1.length : Int)), (17, .int .i64 (k9 : Int))]) ∧ Hp w.heap.size i w' ([]) ∧ Tr Dw w.heap.size A w i w') (fun a ha => ⟨A, ha.sub ⟨rfl, rfl, rfl, rfl, rfl, trivial⟩, ⟨hH, Tr.refl (Dw := Dw) hA⟩⟩) ?_
      rintro K k9 _ a w17 ⟨A18, ha78, hH19, hr8⟩ hle23 K26 h25
      refine C_of ?_ ha78
      replace h_s2 := Sl.tr (Dw := Dw) h_s2 hr8
      replace h_s1 := Sl.tr (Dw := Dw) h_s1 hr8
      replace hK := Tr.trans (Dw := Dw) hK hr8
      replace hB := Nat.le_trans hB hr8.ex.size
      replace hA := hr8.new
      replace hH : Hp w.heap.size A18 w17 ([]) := hH19
      refine C_seq (C_region (V_y (Y_lss rfl rfl) rfl rfl rfl (V_to (fun _ _ => rfl) ?_)))
      refine C_seq ?_
      refine C_cond rfl (fun hc28 => ?_) (fun hc28 => ?_)
      · have hlt24 := lt_of_dec hc28
        obtain ⟨x20, h21, h22⟩ := K26 hlt24
        refine C_skip_to (fun _ _ => rfl) ?_
        refine C_seq ?_
        refine C_block ?_
        refine C_seq ?_
        refine C_region ?_
        refine V_y (Y_move rfl) rfl rfl rfl ?_
        obtain ⟨x29, hx29, h21⟩ := Option.bind_eq_some_iff.1 h21
        refine V_indexAddr h_s1 hx29 Tryz.underlying24 Tryz.sizeOf83 rfl rfl rfl ?_
        intro b30 o31 h32
        obtain ⟨v33, h35, h34⟩ := El_know_Term h32
        refine V_y (Y_loadA h35 Tryz.isAgg83 Tryz.sizeOf83 rfl) rfl rfl rfl ?_
        refine V_alloc Tryz.zeroValue83 rfl ?_
        intro b36 w37 h38
        refine V_y (Y_assign rfl) rfl rfl rfl ?_
        have h43 : (v33).oneCell' = true := by obtain ⟨_, _, e, _⟩ := Sl.form h34; rw [e]; rfl
        refine V_storeNew h38 Tryz.sizeOf83 rfl rfl rfl rfl (by exact (List.forall_mem_cons.2 ⟨rfl, (List.forall_mem_cons.2 ⟨h43, (fun _ h => nomatch h)⟩)⟩)) ?_
        intro w39 h40
        have hk45 := h40.kp (Dw := Dw)
        have h44 : El (α := know_Term) A18 w39 b36 0 x29 := h40.el hA ⟨[.string x29.word], _, rfl, rfl, ⟨_, rfl, h34⟩⟩
        have ht46 := Kp.tr (Dw := Dw) hk45 hA hB
        replace hH := Hp.kp (Dw := Dw) hH hk45
        replace h_s2 := Sl.tr (Dw := Dw) h_s2 ht46
        replace h_s1 := Sl.tr (Dw := Dw) h_s1 ht46
        replace h32 := El.tr (Dw := Dw) h32 ht46
        replace h34 := Sl.tr (Dw := Dw) h34 ht46
        replace hK := Tr.trans (Dw := Dw) hK ht46
        replace hr8 := Tr.trans (Dw := Dw) hr8 ht46
        replace hB := Nat.le_trans hB ht46.ex.size
        replace hA := ht46.new
        refine V_to (fun _ _ => rfl) ?_
        refine C_seq ?_
        refine C_region ?_
        refine V_y (Y_move rfl) rfl rfl rfl ?_
        refine V_y (Y_move rfl) rfl rfl rfl ?_
        obtain ⟨x47, hx47, h21⟩ := Option.bind_eq_some_iff.1 h21
        refine V_indexAddr h_s2 hx47 Tryz.underlying24 Tryz.sizeOf83 rfl rfl rfl ?_
        intro b48 o49 h50
        obtain ⟨v51, h53, h52⟩ := El_know_Term h50
        refine V_y (Y_loadA h53 Tryz.isAgg83 Tryz.sizeOf83 rfl) rfl rfl rfl ?_
        refine V_alloc Tryz.zeroValue83 rfl ?_
        intro b54 w55 h56
        have h61 : (v51).oneCell' = true := by obtain ⟨_, _, e, _⟩ := Sl.form h52; rw [e]; rfl
        refine V_storeNew h56 Tryz.sizeOf83 rfl rfl rfl rfl (by exact (List.forall_mem_cons.2 ⟨rfl, (List.forall_mem_cons.2 ⟨h61, (fun _ h => nomatch h)⟩)⟩)) ?_
        intro w57 h58
        have hk63 := h58.kp (Dw := Dw)
        have h62 : El (α := know_Term) A18 w57 b54 0 x47 := h58.el hA ⟨[.string x47.word], _, rfl, rfl, ⟨_, rfl, h52⟩⟩
        have ht64 := Kp.tr (Dw := Dw) hk63 hA hB
        replace hH := Hp.kp (Dw := Dw) hH hk63
        replace h_s2 := Sl.tr (Dw := Dw) h_s2 ht64
        replace h_s1 := Sl.tr (Dw := Dw) h_s1 ht64
        replace h44 := El.tr (Dw := Dw) h44 ht64
        replace h50 := El.tr (Dw := Dw) h50 ht64
        replace h52 := Sl.tr (Dw := Dw) h52 ht64
        replace hK := Tr.trans (Dw := Dw) hK ht64
        replace hr8 := Tr.trans (Dw := Dw) hr8 ht64
        replace hB := Nat.le_trans hB ht64.ex.size
        replace hA := ht64.new
        refine V_to (fun _ _ => rfl) ?_
        refine C_seq ?_
        refine C_region ?_
        refine V_y (Y_move rfl) rfl rfl rfl ?_
        obtain ⟨v65, h67, h66⟩ := El_know_Term h44
        refine V_y (Y_loadA h67 Tryz.isAgg83 Tryz.sizeOf83 rfl) rfl rfl rfl ?_
        obtain ⟨v68, h70, h69⟩ := El_know_Term h62
        refine V_y (Y_loadA h70 Tryz.isAgg83 Tryz.sizeOf83 rfl) rfl rfl rfl ?_
        obtain ⟨x71, hx71, h21⟩ := Option.bind_eq_some_iff.1 h21
        refine V_call eq_call rfl rfl rfl rfl (eq_spec w57 _ hK hA x29 v65 h66 x47 v68 h69 _ hx71) ?_
        rintro _ w72 ⟨rfl, hk73⟩
        have ht74 := Kp.tr (Dw := Dw) hk73 hA hB
        replace hH := Hp.kp (Dw := Dw) hH hk73
        replace h_s2 := Sl.tr (Dw := Dw) h_s2 ht74
        replace h_s1 := Sl.tr (Dw := Dw) h_s1 ht74
        replace h44 := El.tr (Dw := Dw) h44 ht74
        replace h62 := El.tr (Dw := Dw) h62 ht74
        replace h66 := Sl.tr (Dw := Dw) h66 ht74
        replace h69 := Sl.tr (Dw := Dw) h69 ht74
        replace hK := Tr.trans (Dw := Dw) hK ht74
        replace hr8 := Tr.trans (Dw := Dw) hr8 ht74
        replace hB := Nat.le_trans hB ht74.ex.size
        replace hA := ht74.new
        refine V_y (Y_not rfl) rfl rfl rfl ?_
        refine V_to (fun _ _ => rfl) ?_
        refine C_cond rfl (fun hc75 => ?_) (fun hc75 => ?_)
        · rw [if_pos hc75] at h21
          refine C_seq ?_
          refine C_region ?_
          refine V_y (Y_assign rfl) rfl rfl rfl ?_
          refine V_to (fun _ _ => rfl) ?_
          obtain rfl := Option.some.inj h21
          obtain rfl := (h22 : Lp.rt _ = _)
          rw [Lp.andThen_rt] at hm
          obtain rfl := Option.some.inj hm
          refine C_ret ?_
          try simp only [↓inBlock_ret, ↓then_ret]
          exact retQ rfl (Res.one Tryz.results29 rfl) ⟨rfl, hK.kp⟩
        · rw [if_neg (nt hc75)] at h21
          refine C_skip_to (fun _ _ => rfl) ?_
          refine C_region ?_
          refine V_y (Y_addI rfl rfl) rfl rfl rfl ?_
          refine V_y (Y_move rfl) rfl rfl rfl ?_
          obtain rfl := Option.some.inj h21
          refine V_end (fun a ha76 => ?_)
          exact ⟨(), hlt24, h22, ⟨A18, ha76.sub ⟨rfl, rfl, rfl, rfl, (congrArg (fun z => some (Value.int .i64 z)) (w64_succ hlt24 hn27)), trivial⟩, ⟨hH, hr8⟩⟩⟩
      · refine C_exit (fun a ha77 => ?_)
        exact ⟨((), A18), ha77.sub trivial, ⟨(h25 (eq_of_dec hle23 hc28)).symm, hH, hr8⟩⟩
    rintro ⟨s7, A13⟩ w10 ⟨rfl, hH14, hk11⟩ a ha12
    rw [Lp.andThen_fin] at hm
    replace hK := Tr.trans (Dw := Dw) hK hk11
    replace hB := Nat.le_trans hB hk11.ex.size
    replace hA := hk11.new
    replace hH : Hp w.heap.size A13 w10 ([]) := hH14
    refine C_at (n := ⟨32, [], none⟩) (fun _ _ => rfl) ?_ ha12
    refine C_seq ?_
    refine C_region ?_
    refine V_y (Y_assign rfl) rfl rfl rfl ?_
    refine V_to (fun _ _ => rfl) ?_
    obtain rfl := Option.some.inj hm
    refine C_ret ?_
    try simp only [↓inBlock_ret, ↓then_ret]
    exact retQ rfl (Res.one Tryz.results29 rfl) ⟨rfl, hK.kp⟩

end Go.Proofs.YtldkdabcdbgpbaaGreatDoor.W
