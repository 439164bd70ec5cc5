import Derived.Test.YtiblagcmjobknaaGreatDoorRows
import Derived.Test.YtiblagcmjobknaaGreatDoorTopTakenW4
import Derived.Test.YtiblagcmjobknaaGreatDoorTopTakenTkA
import Derived.Test.YtiblagcmjobknaaGreatDoorTopTakenTkB
import Derived.Test.YtiblagcmjobknaaGreatDoorTopTakenTkC
import Derived.Test.YtiblagcmjobknaaGreatDoorGf
import Derived.Test.YtiblagcmjobknaaGreatDoorTie
import Derived.Test.YtiblagcmjobknaaGreatDoorCards
import Derived.SevenTiedAt
import Derived.LaidMore
import Derived.Lay
import Derived.Stop.Joined
import Derived.Test.YtiblagcmjobknaaGreatDoorGb
import Derived.Test.YtiblagcmjobknaaGreatDoorHj
namespace Go.Proofs.YtiblagcmjobknaaGreatDoor.TopTaken
open Go Go.ChangeShapes Go.WideShapes Go.ChangeAt Go.RowKit Go.Gw Go.Pu Go.Proofs.YtiblagcmjobknaaGreatDoor.M Go.Proofs.YtiblagcmjobknaaGreatDoor.W
set_option linter.unusedVariables false
set_option linter.unusedSimpArgs false
theorem own : ownKnob Tryz.prog.godebug = none := by kernel_rfl
theorem zlh : laidOutB Tryz.prog = true := by kernel_rfl
theorem tys : (Tryz.f3.params.toList.all fun t => Tryz.prog.readableRec t && decide (t < Tryz.prog.types.size)) = true := by kernel_rfl
theorem ziQ : Tryz.prog.cellsOf 38 = 6 := by kernel_rfl
theorem ziM : Tryz.prog.cellsOf 83 = 3 := by kernel_rfl
theorem zlF : Tryz.prog.cellsOf 4 = 1 := by kernel_rfl
theorem ziF : Tryz.prog.cellsOf 71 = 4 := by kernel_rfl
theorem zlg : Tryz.prog.cellsOf 69 = 1 := by kernel_rfl
theorem ziG : Tryz.prog.cellsOf 80 = 2 := by kernel_rfl
theorem ziN : Tryz.prog.cellsOf 68 = 1 := by kernel_rfl
theorem ziK : Tryz.prog.cellsOf 77 = 3 := by kernel_rfl
theorem ziI : Tryz.prog.cellsOf 67 = 2 := by kernel_rfl
theorem zlk : Tryz.prog.cellsOf 65 = 1 := by kernel_rfl
theorem ziR : Tryz.prog.cellsOf 74 = 2 := by kernel_rfl
theorem ziV : Tryz.prog.cellsOf 61 = 4 := by kernel_rfl
theorem ziB : Tryz.prog.cellsOf 36 = 1 := by kernel_rfl
theorem ziC : Tryz.prog.cellsOf 64 = 2 := by kernel_rfl
theorem zlI : Tryz.prog.cellsOf 9 = 1 := by kernel_rfl
theorem QE : Tryz.prog.cellsOf 3 = 1 := by kernel_rfl
theorem o3 : Opn Tryz.prog 3 Int := zls Tryz.underlying3
theorem o9 : Opn Tryz.prog 9 ByteArray := zlx Tryz.underlying9
theorem o64 : Opn Tryz.prog 64 zi := jy (β := ByteArray × Int) (fun (x : zi) => (x.name, x.rank)) (fun y => (⟨y.1, y.2⟩ : zi)) (fun _ => rfl) Tryz.underlying64 ziC (qa rfl zlI o9 (JH rfl QE o3))
theorem o36 : Opn Tryz.prog 36 (List zi) := Jd Tryz.underlying36 o64 ziC (by decide)
theorem o61 : Opn Tryz.prog 61 zd := jy (β := Int × Int × Int × (List zi)) (fun (x : zd) => (x.no, x.capacity, x.calendar, x.skills)) (fun y => (⟨y.1, y.2.1, y.2.2.1, y.2.2.2⟩ : zd)) (fun _ => rfl) Tryz.underlying61 ziV (qa rfl QE o3 (qa rfl QE o3 (qa rfl QE o3 (JH rfl ziB o36))))
theorem o22 : Opn Tryz.prog 22 (List zd) := Jd Tryz.underlying22 o61 ziV (by decide)
theorem o74 : Opn Tryz.prog 74 zU := jy (β := Int × Int) (fun (x : zU) => (x.at_, x.offset)) (fun y => (⟨y.1, y.2⟩ : zU)) (fun _ => rfl) Tryz.underlying74 ziR (qa rfl QE o3 (JH rfl QE o3))
theorem o65 : Opn Tryz.prog 65 (List zU) := Jd Tryz.underlying65 o74 ziR (by decide)
theorem o67 : Opn Tryz.prog 67 Zc := jy (β := Int × (List zU)) (fun (x : Zc) => (x.offset, x.changes)) (fun y => (⟨y.1, y.2⟩ : Zc)) (fun _ => rfl) Tryz.underlying67 ziI (qa rfl QE o3 (JH rfl zlk o65))
theorem o77 : Opn Tryz.prog 77 zp := jy (β := Int × Int × Int) (fun (x : zp) => (x.day, x.from_, x.to_)) (fun y => (⟨y.1, y.2.1, y.2.2⟩ : zp)) (fun _ => rfl) Tryz.underlying77 ziK (qa rfl QE o3 (qa rfl QE o3 (JH rfl QE o3)))
theorem o68 : Opn Tryz.prog 68 (List zp) := Jd Tryz.underlying68 o77 ziK (by decide)
theorem o80 : Opn Tryz.prog 80 zC := jy (β := Int × (List zp)) (fun (x : zC) => (x.day, x.shifts)) (fun y => (⟨y.1, y.2⟩ : zC)) (fun _ => rfl) Tryz.underlying80 ziG (qa rfl QE o3 (JH rfl ziN o68))
theorem o69 : Opn Tryz.prog 69 (List zC) := Jd Tryz.underlying69 o80 ziG (by decide)
theorem o71 : Opn Tryz.prog 71 zg := jy (β := Zc × (List zp) × (List zC)) (fun (x : zg) => (x.zone, x.week, x.specials)) (fun y => (⟨y.1, y.2.1, y.2.2⟩ : zg)) (fun _ => rfl) Tryz.underlying71 ziF (qa rfl ziI o67 (qa rfl ziN o68 (JH rfl zlg o69)))
theorem o23 : Opn Tryz.prog 23 (List zg) := Jd Tryz.underlying23 o71 ziF (by decide)
theorem o4 : Opn Tryz.prog 4 Bool := zkN Tryz.underlying4
theorem o83 : Opn Tryz.prog 83 zk := jy (β := Int × Int × Bool) (fun (x : zk) => (x.after, x.lower, x.any)) (fun y => (⟨y.1, y.2.1, y.2.2⟩ : zk)) (fun _ => rfl) Tryz.underlying83 ziM (qa rfl QE o3 (qa rfl QE o3 (JH rfl zlF o4)))
theorem o24 : Opn Tryz.prog 24 (List zk) := Jd Tryz.underlying24 o83 ziM (by decide)
theorem o38 : Opn Tryz.prog 38 za := jy (β := Int × Int × Int × Int × Int × (List zi)) (fun (x : za) => (x.ticket, x.weight, x.urgency, x.since, x.former, x.needs)) (fun y => (⟨y.1, y.2.1, y.2.2.1, y.2.2.2.1, y.2.2.2.2.1, y.2.2.2.2.2⟩ : za)) (fun _ => rfl) Tryz.underlying38 ziQ (qa rfl QE o3 (qa rfl QE o3 (qa rfl QE o3 (qa rfl QE o3 (qa rfl QE o3 (JH rfl ziB o36))))))
theorem o25 : Opn Tryz.prog 25 (List za) := Jd Tryz.underlying25 o38 ziQ (by decide)
theorem o26 : Opn Tryz.prog 26 (List Int) := Jd Tryz.underlying26 o3 QE (by decide)
set_option maxRecDepth 100000 in
theorem zlL (os : Os) (started : os.Started) (H : Type) (enc : TypeId × Value → H) :
  ReturnsInHanded {} Tryz.checked os 3 .any (fun w args => (Rows.topTakenSpec.pre enc Tryz.prog Tryz.f3 Rows.topTakenRow.domain false w args ∧ laidMetH Tryz.prog Rows.topTakenRow.laid w) ∧ sizedMet enc Tryz.prog Tryz.f3 (OpenSpec.ofChange Rows.topTakenSpec) false w args) (Rows.topTakenSpec.post enc Tryz.prog Tryz.f3 false true false false) := by
 refine zaC (C := Tryz.checked) (X := fun w _ => laidMetH Tryz.prog Rows.topTakenRow.laid w) (fun _ _ _ hh h => h.of_heap hh) own started (by kernel_rfl) Tryz.func3
  (ChangeSpec.witness_shaped (enc := enc) (C := Tryz.checked) (os := os) (X := fun w _ => laidMetH Tryz.prog Rows.topTakenRow.laid w) false (World.laidAll Tryz.prog os Rows.topTakenRow.laid) #[.slice none 0 0, .slice none 0 0, .slice none 0 0, .slice none 0 0, .slice none 0 0] 8 (World.laidAll_os _ _ _) (World.shaped_of_ZipB (by kernel_rfl) (by kernel_rfl)) (by kernel_rfl) (by kernel_rfl) (by kernel_rfl)
   (by rw [MakeChecks.laidMetH_plain _ _ _ (by kernel_rfl)]; exact laidMet_laidAll _ (by kernel_rfl) (by kernel_rfl))) ?_
 intro W base args ds gs JM hval0 hW _ hsz0 hL _ hshape
 have hsz : (DataW.weightsEach Tryz.prog (Tryz.f3.params.toList ++ Rows.topTakenSpec.plain.varTypes Tryz.prog) (ds ++ gs)).all (· ≤ reachBytes) = true := hsz0
 clear hsz0
 have hval : ∀ (j : Nat) t v, Tryz.f3.params[j]? = some t → args[j]? = some v → Value.okWide Tryz.prog W .any base t v := hval0
 have hgs : gs = [] := by
  obtain ⟨p, q, _, hV, _⟩ := hW
  cases gs with
  | nil => rfl
  | cons g r => exact hV.elim
 subst hgs
 have hW' := hW
 obtain ⟨p, q, hA0, hV, rfl, hfz, hnd⟩ := hW
 have hA : DataW.TrodAll enc Tryz.prog W 0 (fun _ => true) true Tryz.f3.params.toList args.toList ds p := hA0
 rw [Tryz.params3] at hA hval hsz
 obtain ⟨v0, vs0, d0, ds0, p0, q0, hargs, rfl, rfl, h0, r0⟩ := trodAll_cons hA
 obtain ⟨v1, vs1, d1, ds1, p1, q1, rfl, rfl, rfl, h1, r1⟩ := trodAll_cons r0
 obtain ⟨v2, vs2, d2, ds2, p2, q2, rfl, rfl, rfl, h2, r2⟩ := trodAll_cons r1
 obtain ⟨v3, vs3, d3, ds3, p3, q3, rfl, rfl, rfl, h3, r3⟩ := trodAll_cons r2
 obtain ⟨v4, vs4, d4, ds4, p4, q4, rfl, rfl, rfl, h4, r4⟩ := trodAll_cons r3
 obtain ⟨rfl, rfl, rfl⟩ := trodAll_nil r4
 obtain rfl : args = #[v0, v1, v2, v3, v4] := by cases args; simp_all
 obtain ⟨x0, g0, wf0⟩ := zbo o22 Tryz.underlying22 (hval 0 22 v0 rfl rfl) h0
 obtain ⟨x1, g1, wf1⟩ := zbo o23 Tryz.underlying23 (hval 1 23 v1 rfl rfl) h1
 obtain ⟨x2, g2, wf2⟩ := zbo o24 Tryz.underlying24 (hval 2 24 v2 rfl rfl) h2
 obtain ⟨x3, g3, wf3⟩ := zbo o25 Tryz.underlying25 (hval 3 25 v3 rfl rfl) h3
 obtain ⟨x4, g4, wf4⟩ := zbo o26 Tryz.underlying26 (hval 4 26 v4 rfl rfl) h4
 clear hA0 hA hval0
 refine Calls.mono (zed (Dw := True) W (fun _ _ => trivial) (show Fz zbc _ _ from ⟨(Tb.laid hL (by kernel_rfl) (by simp only [Rows.topTakenRow, List.mem_cons]; first | exact .inl rfl | exact .inr (.inl rfl) | exact .inr (.inr (.inl rfl)) | exact .inr (.inr (.inr (.inl rfl))) | exact .inr (.inr (.inr (.inr (.inl rfl))))) (g := 5) (by kernel_rfl) (by kernel_rfl) Tryz.underlying251 Tryz.underlying176 (by kernel_rfl) (by kernel_rfl)), (Mx.shape hshape (g := 0) (of_decide_eq_true (by kernel_rfl)) (zero := #[.int .i64 0]) (t := 3) (by kernel_rfl) rfl (by kernel_rfl) (by kernel_rfl) Tryz.underlying3), (Er.laid (n := "strconv.ErrSyntax") (nm := "*errors.errorString") (d := .ptr (.agg [.lit (.string [105, 110, 118, 97, 108, 105, 100, 32, 115, 121, 110, 116, 97, 120])])) hL (by kernel_rfl) (List.mem_iff_getElem?.2 ⟨5, rfl⟩) (g := 1) (by kernel_rfl) (by kernel_rfl) Tryz.underlying160), (Er.laid (n := "strconv.ErrRange") (nm := "*errors.errorString") (d := .ptr (.agg [.lit (.string [118, 97, 108, 117, 101, 32, 111, 117, 116, 32, 111, 102, 32, 114, 97, 110, 103, 101])])) hL (by kernel_rfl) (List.mem_iff_getElem?.2 ⟨4, rfl⟩) (g := 2) (by kernel_rfl) (by kernel_rfl) Tryz.underlying160)⟩) x0 v0 g0 x1 v1 g1 x2 v2 g2 x3 v3 g3 x4 v4 g4 (zjv x0 x1 x2 x3 x4 (fun p hp k hk => (((wf0.2 p hp).2.2.2.2 k hk).1)) (fun w hw k hk => ((wf3.2 w hw).2.2.2.2.2.2 k hk).1))) ?_
 rintro e W' ⟨v, rfl, rfl, hk⟩
 exact ⟨_, rfl, zkD rfl rfl rfl rfl rfl Tryz.underlying4 zlh tys hW' hk.below⟩
theorem said : Rows.TopTakenSaid :=
 OpenClaim.holds_of_wide 3 Tryz.f3 rfl rfl rfl rfl rfl rfl rfl ⟨rfl, rfl, rfl, rfl, rfl⟩ rfl rfl rfl rfl rfl (by kernel_rfl) Tryz.func3 (by kernel_rfl)
  (of_decide_eq_true (by kernel_rfl)) (by unfold Func.isWrapper; first | (rw [if_pos (by decide +kernel)]; kernel_rfl) | (rw [if_neg (by decide +kernel)]; exact ⟨rfl, rfl⟩))
  (fun os started H enc _ => zlL os started H enc)
theorem proved : Rows.TopTakenCardSaid :=
 Claim7.holds_tied_plain_at .later [] [.data, .data, .data, .data, .sentinel, .sentinel, .pinned] true (true, "e4319cb8a9d92e5046ac8368f6dece47fb980c46fbc82824bf967d0eb43872e7") true
  said (fun _ h => by cases h) (by kernel_rfl) (fun _ h => by cases h) topTaken_row_tie rfl ⟨rfl, rfl⟩ (by kernel_rfl) rfl
  (fun f fn hf hfn => by
   obtain rfl : f = 3 := Option.some.inj ((show Tryz.prog.funcNamed "porterslodge/porttop.TopTaken" = some 3 by kernel_rfl).symm.trans hf) |>.symm
   obtain rfl : fn = Tryz.f3 := (Option.some.inj (Tryz.func3.symm.trans hfn)).symm
   exact ⟨by kernel_rfl, fun j t ht => by
    rw [Tryz.params3] at ht
    have hm : t ∈ [22, 23, 24, 25, 26] := by simpa using Array.mem_of_getElem? ht
    have hall : ([22, 23, 24, 25, 26].all fun u => !Tryz.prog.wantsStandIn u) = true := by kernel_rfl
    exact (show Tryz.prog.wantsStandIn t = false by simpa using List.all_eq_true.1 hall t hm)⟩)
  (by kernel_rfl)
#print axioms proved
end Go.Proofs.YtiblagcmjobknaaGreatDoor.TopTaken
