/-
  Written by program (gen.py) from the IR of the dump: each function computes its model.
-/
import Derived.Test.YtnnbhehaplphiaaGreatDoorProg
import Derived.Test.YtnnbhehaplphiaaGreatDoorGe
import Derived.Test.YtnnbhehaplphiaaGreatDoorRatioSumsM
import Derived.KernelRfl
import Derived.Test.YtnnbhehaplphiaaGreatDoorHt
import Derived.Test.YtnnbhehaplphiaaGreatDoorHr
import Derived.Test.YtnnbhehaplphiaaGreatDoorHu
import Derived.Test.YtnnbhehaplphiaaGreatDoorGu
import Derived.Shelf.Strings.BuilderK
import Derived.Shelf.Strings.BuilderK
import Derived.Shelf.Strconv.AtoiAll
import Derived.Lib.AtoiErrMem
import Derived.Shelf.Strconv.Itoa3
import Derived.Shelf.Strings.SlTrimAscii
import Derived.Test.YtnnbhehaplphiaaGreatDoorGi
import Derived.Test.YtnnbhehaplphiaaGreatDoorHc
import Derived.Test.YtnnbhehaplphiaaGreatDoorGg
import Derived.Test.YtnnbhehaplphiaaGreatDoorHi
import Derived.Test.YtnnbhehaplphiaaGreatDoorGl
import Derived.Test.YtnnbhehaplphiaaGreatDoorGv
namespace Go.Proofs.YtnnbhehaplphiaaGreatDoor.W
open Go Go.RowKit Go.Pu Go.Gw Go.Proofs Go.Proofs.YtnnbhehaplphiaaGreatDoor.M
set_option linter.unusedVariables false
set_option linter.unusedSimpArgs false
variable {Dw : Prop}

def Tryz_FR : (Nat → Prop) → World → Prop := fun A w => Tb Tryz.prog A w ∧ Er Tryz.prog 0 A w ∧ Er Tryz.prog 1 A w
instance : Keeps Tryz_FR := ⟨fun h hh hs => ⟨Keeps.to (R := Tb Tryz.prog) ((h).1) hh hs, Keeps.to (R := Er Tryz.prog 0) ((h).2.1) hh hs, Keeps.to (R := Er Tryz.prog 1) ((h).2.2) hh hs⟩⟩
theorem Tryz_info3 : Tryz.prog.info? 3 = some Tryz.t3 := by kernel_rfl
theorem Tryz_info5 : Tryz.prog.info? 5 = some Tryz.t5 := by kernel_rfl
theorem Tryz_info77 : Tryz.prog.info? 77 = some Tryz.t77 := by kernel_rfl
theorem Tryz_places23 : ∀ fs, Tryz.prog.underlying 23 = some (.struct fs) → ∀ w : World, (Array.mapM (fun (f : Field) => do pure (f.offset, ← Go.sizeOf f.type)) fs).run Tryz.prog w = .ok #[(0, 1), (1, 1)] w := by
 intro fs h w
 rw [Tryz.underlying23] at h
 cases h
 kernel_rfl
theorem Tryz_places35 : ∀ fs, Tryz.prog.underlying 35 = some (.struct fs) → ∀ w : World, (Array.mapM (fun (f : Field) => do pure (f.offset, ← Go.sizeOf f.type)) fs).run Tryz.prog w = .ok #[(0, 1), (1, 1)] w := by
 intro fs h w
 rw [Tryz.underlying35] at h
 cases h
 kernel_rfl
theorem Tryz_places43 : ∀ fs, Tryz.prog.underlying 43 = some (.struct fs) → ∀ w : World, (Array.mapM (fun (f : Field) => do pure (f.offset, ← Go.sizeOf f.type)) fs).run Tryz.prog w = .ok #[(0, 1), (1, 1)] w := by
 intro fs h w
 rw [Tryz.underlying43] at h
 cases h
 kernel_rfl
theorem Tryz_eqt23_10000 (a0 : ByteArray) (a1 : ByteArray) (b0 : ByteArray) (b1 : ByteArray) (w : World) : (Op.equalIn 10000 23 (.agg #[.string a0, .string a1]) (.agg #[.string b0, .string b1])).run Tryz.prog w = .ok (strEq a0 b0 && (strEq a1 b1)) w := by
 refine (run_equalIn_struct w 9999 23 _ _ (by kernel_rfl) (by kernel_rfl)).trans ?_
 rw [show Tryz.prog.fieldsOf 23 = _ from by unfold Program.fieldsOf; rw [Tryz.underlying23]]
 cases h0 : (strEq a0 b0) <;> cases h1 : (strEq a1 b1) <;> simp_all [Op.eqFields, part, strEq, Tryz.isAgg9, run_equalIn_string _ _ _ _ _ Tryz.underlying9]
theorem Tryz_eqg23 : Tryz.prog.eqGuardType Tryz.prog.depth 23 = false := by kernel_rfl
theorem Tryz_mixed : Tryz.prog.follows .mixedOrders = true := by kernel_rfl

instance : GoT staff_Ratio := GoT.of (β := ByteArray × ByteArray) fun x => (x.num, x.den)

instance : Flat staff_Ratio := ⟨fun {A w A1 w1 cs x} h => Flat.flat (α := ByteArray × ByteArray) (x := (x.num, x.den)) (A := A) (w := w) h⟩

theorem El_staff_Ratio_ {A : Nat → Prop} {w : World} {b off : Nat} {x : staff_Ratio} (h : El A w b off x) : El (α := ByteArray × ByteArray) A w b off (x.num, x.den) := h

theorem El_staff_Ratio_0 {A : Nat → Prop} {w : World} {b off : Nat} {x : staff_Ratio} (h : El A w b off x) : El A w b (off + 0) x.num := El.fst (El_staff_Ratio_ h)

theorem El_staff_Ratio_1 {A : Nat → Prop} {w : World} {b off : Nat} {x : staff_Ratio} (h : El A w b off x) : El A w b (off + 1) x.den := El.snd (El_staff_Ratio_ h)

theorem El_staff_Ratio {A : Nat → Prop} {w : World} {b off : Nat} {x : staff_Ratio} (h : El A w b off x) : At w b off [.string x.num, .string x.den] ∧ True := by
 obtain ⟨h1, h2, cs, h3, h4⟩ := h
 obtain ⟨_, _, rfl, rfl, rfl⟩ := h3
 exact ⟨h4, trivial⟩

instance : GoT staff_ratio := GoT.of (β := (List Int) × (List Int)) fun x => (x.num, x.den)

theorem El_staff_ratio_ {A : Nat → Prop} {w : World} {b off : Nat} {x : staff_ratio} (h : El A w b off x) : El (α := (List Int) × (List Int)) A w b off (x.num, x.den) := h

theorem El_staff_ratio_0 {A : Nat → Prop} {w : World} {b off : Nat} {x : staff_ratio} (h : El A w b off x) : El A w b (off + 0) x.num := El.fst (El_staff_ratio_ h)

theorem El_staff_ratio_1 {A : Nat → Prop} {w : World} {b off : Nat} {x : staff_ratio} (h : El A w b off x) : El A w b (off + 1) x.den := El.snd (El_staff_ratio_ h)

theorem El_staff_ratio {A : Nat → Prop} {w : World} {b off : Nat} {x : staff_ratio} (h : El A w b off x) : ∃ v1 v3, At w b off [v1, v3] ∧ Sl A w v1 x.num ∧ Sl A w v3 x.den := by
 obtain ⟨h1, h2, cs, h3, h4⟩ := h
 obtain ⟨_, _, rfl, ⟨u1, rfl, g1⟩, ⟨u2, rfl, g2⟩⟩ := h3
 exact ⟨u1, u2, h4, g1, g2⟩

instance : GoT portref2_ratio := GoT.of (β := (List UInt32) × (List UInt32)) fun x => (x.num, x.den)

theorem El_portref2_ratio_ {A : Nat → Prop} {w : World} {b off : Nat} {x : portref2_ratio} (h : El A w b off x) : El (α := (List UInt32) × (List UInt32)) A w b off (x.num, x.den) := h

theorem El_portref2_ratio_0 {A : Nat → Prop} {w : World} {b off : Nat} {x : portref2_ratio} (h : El A w b off x) : El A w b (off + 0) x.num := El.fst (El_portref2_ratio_ h)

theorem El_portref2_ratio_1 {A : Nat → Prop} {w : World} {b off : Nat} {x : portref2_ratio} (h : El A w b off x) : El A w b (off + 1) x.den := El.snd (El_portref2_ratio_ h)

section
variable {P : Program} {n : Fr} {ops : Array Oper} {Q : Exit → Act → World → Prop} {E : Env} {w : World} {rest : List Oper} {v : Value} {d : Nat} {ty : TypeId} {pos : String} {af : Array Edge} {x : Operand}
theorem V_mv (hx : ev E x = some v) (hn : Nat.blt d n.sz = true) (h : V P n ops Q rest ((d, v) :: E) w) : V P n ops Q (⟨some d, .move x, ty, pos, af, none⟩ :: rest) E w := V_y (Y_move hx) rfl rfl hn h
theorem V_as (hx : ev E x = some v) (hn : Nat.blt d n.sz = true) (h : V P n ops Q rest ((d, v) :: E) w) : V P n ops Q (⟨some d, .assign x, ty, pos, af, none⟩ :: rest) E w := V_y (Y_assign hx) rfl rfl hn h
end

set_option maxRecDepth 4000 in
set_option maxHeartbeats 4000000 in
theorem staff_checkDigits_c (w : World) (s : ByteArray) {r : Int} (hm : staff_checkDigits s = some r) : Ret Tryz.prog 42 #[.string s] w fun v w' => v = .int .i64 r ∧ w = w' := by
 unfold staff_checkDigits at hm
 refine enter Tryz.func42 rfl Tryz.ntmps42 rfl ?_
 refine C_seq ?_
 refine C_region ?_
 refine V_as rfl rfl ?_
 refine V_to (fun _ _ => rfl) ?_
 refine C_seq ?_
 refine C_seq ?_
 refine C_region ?_
 refine V_mv rfl rfl ?_
 refine V_y (Y_lenStr rfl Tryz.underlying9 rfl) rfl rfl rfl ?_
 refine V_mv rfl rfl ?_
 refine V_to (fun _ _ => rfl) ?_
 obtain ⟨o1, ho1, hm⟩ := Option.bind_eq_some_iff.1 hm
 refine C_cutG (ι := Int) (fun (s2 : Int) => [(0, .string s)]) (fun (s2 : Int) => fun w' => o1 = .fin s2 ∧ w = w') ?_ ?_
 ·refine C_block ?_
  refine C_while ho1 (fun s8 a w' => ∃ i : Unit, Has ⟨32, [], none⟩ a ([(0, .string s), (5, .int .i64 (s.size : Int)), (6, .int .i64 s8)]) ∧ w = w') (fun a ha => ⟨(), ha.sub ⟨rfl, rfl, rfl, trivial⟩, rfl⟩) ?_
  rintro K s8 a _ ⟨_, ha24, rfl⟩ K16
  refine C_of ?_ ha24
  obtain ⟨x10, h11, h12⟩ := K16
  refine C_seq ?_
  refine C_region ?_
  refine V_y (Y_lss rfl rfl) rfl rfl rfl ?_
  refine V_to (fun _ _ => rfl) ?_
  refine C_seq ?_
  refine C_cond rfl (fun hc17 => ?_) (fun hc17 => ?_)
  ·rw [if_pos hc17] at h11
   refine C_skip_to (fun _ _ => rfl) ?_
   refine C_seq ?_
   refine C_block ?_
   refine C_seq ?_
   refine C_region ?_
   refine V_mv rfl rfl ?_
   refine V_as rfl rfl ?_
   refine V_to (fun _ _ => rfl) ?_
   refine C_seq ?_
   refine C_region ?_
   refine V_mv rfl rfl ?_
   refine V_mv rfl rfl ?_
   obtain ⟨x18, hx18, h11⟩ := Option.bind_eq_some_iff.1 h11
   refine V_y (Y_indexS hx18 Tryz.underlying9 rfl rfl) rfl rfl rfl ?_
   refine V_y (Y_lss rfl rfl) rfl rfl rfl ?_
   refine V_mv rfl rfl ?_
   obtain ⟨s20, hs20, h11⟩ := Option.bind_eq_some_iff.1 h11
   refine V_cut 5 (fun _ : Unit => [(0, .string s), (5, .int .i64 (s.size : Int)), (6, .int .i64 s8), (18, .bool s20)]) (fun _ w' => w = w') ?_ ?_
   ·simp only [List.take, List.drop]
    rcases Bool.eq_false_or_eq_true (decide ((x18.toNat : Int) < 48)) with hc19 | hc19
    ·rw [if_pos hc19] at hs20
     refine V_gn rfl rfl rfl hc19 rfl rfl rfl ?_
     refine V_gn rfl rfl rfl hc19 rfl rfl rfl ?_
     refine V_gn rfl rfl rfl hc19 rfl rfl rfl ?_
     refine V_gn rfl rfl rfl hc19 rfl rfl rfl ?_
     refine V_y (Y_pick_te rfl hc19 rfl) rfl rfl rfl ?_
     obtain rfl := Option.some.inj hs20
     exact V_end fun a ha => ⟨(), ha.sub ⟨rfl, rfl, rfl, rfl, trivial⟩, rfl⟩
    ·rw [if_neg (nt hc19)] at hs20
     refine V_ge rfl rfl rfl hc19 ?_
     refine V_mv rfl rfl ?_
     refine V_ge rfl rfl rfl hc19 ?_
     refine V_mv rfl rfl ?_
     refine V_ge rfl rfl rfl hc19 ?_
     refine V_y (Y_indexS hx18 Tryz.underlying9 rfl rfl) rfl rfl rfl ?_
     refine V_ge rfl rfl rfl hc19 ?_
     refine V_y (Y_gtr rfl rfl) rfl rfl rfl ?_
     refine V_y (Y_pick_fe rfl hc19 rfl) rfl rfl rfl ?_
     obtain rfl := Option.some.inj hs20
     exact V_end fun a ha => ⟨(), ha.sub ⟨rfl, rfl, rfl, rfl, trivial⟩, rfl⟩
   simp only [List.take, List.drop]
   rintro _ _ rfl
   refine V_to (fun _ _ => rfl) ?_
   refine C_cond rfl (fun hc21 => ?_) (fun hc21 => ?_)
   ·rw [if_pos hc21] at h11
    refine C_seq ?_
    refine C_region ?_
    refine V_as rfl rfl ?_
    refine V_to (fun _ _ => rfl) ?_
    obtain rfl := Option.some.inj h11
    obtain rfl := (h12 : Lp.rt _ = _)
    rw [Lp.andThen_rt] at hm
    obtain rfl := Option.some.inj hm
    refine C_ret ?_
    try simp only [↓inBlock_ret, ↓then_ret]
    exact retQ rfl (Res.one Tryz.results42 rfl) ⟨rfl, rfl⟩
   ·rw [if_neg (nt hc21)] at h11
    refine C_skip_to (fun _ _ => rfl) ?_
    refine C_region ?_
    refine V_y (Y_addI rfl rfl) rfl rfl rfl ?_
    refine V_mv rfl rfl ?_
    obtain rfl := Option.some.inj h11
    refine V_end (fun a ha22 => ?_)
    exact ⟨w64 (s8 + 1), h12, ⟨(), ha22.sub ⟨rfl, rfl, rfl, trivial⟩, rfl⟩⟩
  ·rw [if_neg (nt hc17)] at h11
   obtain rfl := Option.some.inj h11
   refine C_exit (fun a ha23 => ?_)
   exact ⟨s8, ha23.sub ⟨rfl, trivial⟩, ⟨h12.symm, rfl⟩⟩
 rintro s2 _ ⟨rfl, rfl⟩ a ha7
 rw [Lp.andThen_fin] at hm
 refine C_at (n := ⟨32, [], none⟩) (fun _ _ => rfl) ?_ ha7
 refine C_seq ?_
 refine C_seq ?_
 refine C_region ?_
 refine V_mv rfl rfl ?_
 refine V_y (Y_seql rfl rfl) rfl rfl rfl ?_
 refine V_mv rfl rfl ?_
 obtain ⟨s26, hs26, hm⟩ := Option.bind_eq_some_iff.1 hm
 refine V_cut 9 (fun _ : Unit => [(31, .bool s26)]) (fun _ w' => w = w') ?_ ?_
 ·simp only [List.take, List.drop]
  rcases Bool.eq_false_or_eq_true (strEq s (⟨#[]⟩ : ByteArray)) with hc25 | hc25
  ·rw [if_pos hc25] at hs26
   refine V_gn rfl rfl rfl hc25 rfl rfl rfl ?_
   refine V_gn rfl rfl rfl hc25 rfl rfl rfl ?_
   refine V_gn rfl rfl rfl hc25 rfl rfl rfl ?_
   refine V_gn rfl rfl rfl hc25 rfl rfl rfl ?_
   refine V_gu rfl rfl rfl rfl rfl ?_
   refine V_gu rfl rfl rfl rfl rfl ?_
   refine V_gu rfl rfl rfl rfl rfl ?_
   refine V_gn rfl rfl rfl hc25 rfl rfl rfl ?_
   refine V_y (Y_pick_te rfl hc25 rfl) rfl rfl rfl ?_
   obtain rfl := Option.some.inj hs26
   exact V_end fun a ha => ⟨(), ha.sub ⟨rfl, trivial⟩, rfl⟩
  ·rw [if_neg (nt hc25)] at hs26
   refine V_ge rfl rfl rfl hc25 ?_
   refine V_mv rfl rfl ?_
   refine V_ge rfl rfl rfl hc25 ?_
   obtain ⟨x27, hx27, hs26⟩ := Option.bind_eq_some_iff.1 hs26
   refine V_y (Y_indexS hx27 Tryz.underlying9 rfl rfl) rfl rfl rfl ?_
   refine V_ge rfl rfl rfl hc25 ?_
   refine V_y (Y_eql rfl rfl) rfl rfl rfl ?_
   refine V_ge rfl rfl rfl hc25 ?_
   refine V_mv rfl rfl ?_
   refine V_cut 4 (fun _ : Unit => [(22, .bool (strEq s (⟨#[]⟩ : ByteArray))), (30, .bool (((x27.toNat : Int) == 48) && (decide ((1 : Int) < (s.size : Int)))))]) (fun _ w' => w = w') ?_ ?_
   ·simp only [List.take, List.drop]
    rcases Bool.eq_false_or_eq_true ((x27.toNat : Int) == 48) with hc28 | hc28
    ·refine V_ge rfl rfl rfl hc28 ?_
     refine V_mv rfl rfl ?_
     refine V_ge rfl rfl rfl hc28 ?_
     refine V_y (Y_lenStr rfl Tryz.underlying9 rfl) rfl rfl rfl ?_
     refine V_ge rfl rfl rfl hc28 ?_
     refine V_y (Y_gtr rfl rfl) rfl rfl rfl ?_
     refine V_ge rfl rfl rfl hc25 ?_
     refine V_y (Y_pick_te rfl hc28 rfl) rfl rfl rfl ?_
     exact V_end fun a ha => ⟨(), ha.sub ⟨rfl, (by rw [hc28]; rfl), trivial⟩, rfl⟩
    ·refine V_gn rfl rfl rfl hc28 rfl rfl rfl ?_
     refine V_gn rfl rfl rfl hc28 rfl rfl rfl ?_
     refine V_gn rfl rfl rfl hc28 rfl rfl rfl ?_
     refine V_ge rfl rfl rfl hc25 ?_
     refine V_y (Y_pick_fe rfl hc28 rfl) rfl rfl rfl ?_
     exact V_end fun a ha => ⟨(), ha.sub ⟨rfl, (by rw [hc28]; rfl), trivial⟩, rfl⟩
   simp only [List.take, List.drop]
   rintro _ _ rfl
   refine V_y (Y_pick_fe rfl hc25 rfl) rfl rfl rfl ?_
   obtain rfl := Option.some.inj hs26
   exact V_end fun a ha => ⟨(), ha.sub ⟨rfl, trivial⟩, rfl⟩
 simp only [List.take, List.drop]
 rintro _ _ rfl
 refine V_to (fun _ _ => rfl) ?_
 refine C_cond rfl (fun hc30 => ?_) (fun hc30 => ?_)
 ·rw [if_pos hc30] at hm
  refine C_seq ?_
  refine C_region ?_
  refine V_as rfl rfl ?_
  refine V_to (fun _ _ => rfl) ?_
  obtain rfl := Option.some.inj hm
  refine C_ret ?_
  try simp only [↓inBlock_ret, ↓then_ret]
  exact retQ rfl (Res.one Tryz.results42 rfl) ⟨rfl, rfl⟩
 ·rw [if_neg (nt hc30)] at hm
  refine C_skip_to (fun _ _ => rfl) ?_
  refine C_seq ?_
  refine C_region ?_
  refine V_as rfl rfl ?_
  refine V_to (fun _ _ => rfl) ?_
  obtain rfl := Option.some.inj hm
  refine C_ret ?_
  try simp only [↓inBlock_ret, ↓then_ret]
  exact retQ rfl (Res.one Tryz.results42 rfl) ⟨rfl, rfl⟩

set_option maxRecDepth 4000 in
set_option maxHeartbeats 4000000 in
theorem cmp_Or_api_Errno_c (w : World) {A : Nat → Prop} (vals : (List Int)) (v_vals : Value) (h_vals : Sl A w v_vals vals) {r : Int} (hm : cmp_Or_api_Errno vals = some r) : Ret Tryz.prog 41 #[v_vals] w fun v w' => v = .int .i64 r ∧ w = w' := by
 unfold cmp_Or_api_Errno at hm
 refine enter Tryz.func41 rfl Tryz.ntmps41 rfl ?_
 refine C_seq ?_
 refine C_region ?_
 refine V_as rfl rfl ?_
 refine V_to (fun _ _ => rfl) ?_
 refine C_seq ?_
 refine C_region ?_
 refine V_as rfl rfl ?_
 refine V_to (fun _ _ => rfl) ?_
 refine C_seq ?_
 refine C_seq ?_
 refine C_region ?_
 refine V_mv rfl rfl ?_
 refine V_y (Y_lenSl h_vals rfl Tryz.underlying81 rfl) rfl rfl rfl ?_
 refine V_mv rfl rfl ?_
 refine V_to (fun _ _ => rfl) ?_
 have hn19 := Sl.le h_vals
 obtain ⟨o3, ho3, hm⟩ := Option.bind_eq_some_iff.1 hm
 refine C_cutG (ι := Unit) (fun (s4 : Unit) => [(3, .int .i64 0)]) (fun (s4 : Unit) => fun w' => o3 = .fin s4 ∧ w = w') ?_ ?_
 ·refine C_block ?_
  refine C_range ho3 (fun k6 _ a w' => ∃ i : Unit, Has ⟨18, [], none⟩ a ([(3, .int .i64 0), (6, v_vals), (7, .int .i64 (vals.length : Int)), (8, .int .i64 (k6 : Int))]) ∧ w = w') (fun a ha => ⟨(), ha.sub ⟨rfl, rfl, rfl, rfl, trivial⟩, rfl⟩) ?_
  rintro K k6 _ a _ ⟨_, ha28, rfl⟩ hle15 K18 h17
  refine C_of ?_ ha28
  refine C_seq (C_region (V_y (Y_lss rfl rfl) rfl rfl rfl (V_to (fun _ _ => rfl) ?_)))
  refine C_seq ?_
  refine C_cond rfl (fun hc20 => ?_) (fun hc20 => ?_)
  ·have hlt16 := lt_of_dec hc20
   obtain ⟨x12, h13, h14⟩ := K18 hlt16
   refine C_skip_to (fun _ _ => rfl) ?_
   refine C_seq ?_
   refine C_block ?_
   refine C_seq ?_
   refine C_region ?_
   obtain ⟨x21, hx21, h13⟩ := Option.bind_eq_some_iff.1 h13
   refine V_indexAddr h_vals hx21 Tryz.underlying81 Tryz.sizeOf24 rfl rfl rfl ?_
   intro b22 o23 h24
   refine V_y (Y_load (El.int h24) Tryz.isAgg24 rfl) rfl rfl rfl ?_
   refine V_as rfl rfl ?_
   refine V_to (fun _ _ => rfl) ?_
   refine C_seq ?_
   refine C_region ?_
   refine V_mv rfl rfl ?_
   refine V_mv rfl rfl ?_
   refine V_y (Y_neq rfl rfl) rfl rfl rfl ?_
   refine V_to (fun _ _ => rfl) ?_
   refine C_cond rfl (fun hc25 => ?_) (fun hc25 => ?_)
   ·rw [if_pos hc25] at h13
    refine C_seq ?_
    refine C_region ?_
    refine V_mv rfl rfl ?_
    refine V_as rfl rfl ?_
    refine V_to (fun _ _ => rfl) ?_
    obtain rfl := Option.some.inj h13
    obtain rfl := (h14 : Lp.rt _ = _)
    rw [Lp.andThen_rt] at hm
    obtain rfl := Option.some.inj hm
    refine C_ret ?_
    try simp only [↓inBlock_ret, ↓then_ret]
    exact retQ rfl (Res.one Tryz.results41 rfl) ⟨rfl, rfl⟩
   ·rw [if_neg (nt hc25)] at h13
    refine C_skip_to (fun _ _ => rfl) ?_
    refine C_region ?_
    refine V_y (Y_addI rfl rfl) rfl rfl rfl ?_
    refine V_mv rfl rfl ?_
    obtain rfl := Option.some.inj h13
    refine V_end (fun a ha26 => ?_)
    exact ⟨(), hlt16, h14, ⟨(), ha26.sub ⟨rfl, rfl, rfl, (congrArg (fun z => some (Value.int .i64 z)) (w64_succ hlt16 hn19)), trivial⟩, rfl⟩⟩
  ·refine C_exit (fun a ha27 => ?_)
   exact ⟨(), ha27.sub ⟨rfl, trivial⟩, ⟨(h17 (eq_of_dec hle15 hc20)).symm, rfl⟩⟩
 rintro s4 _ ⟨rfl, rfl⟩ a ha9
 rw [Lp.andThen_fin] at hm
 refine C_at (n := ⟨18, [], none⟩) (fun _ _ => rfl) ?_ ha9
 refine C_seq ?_
 refine C_region ?_
 refine V_mv rfl rfl ?_
 refine V_as rfl rfl ?_
 refine V_to (fun _ _ => rfl) ?_
 obtain rfl := Option.some.inj hm
 refine C_ret ?_
 try simp only [↓inBlock_ret, ↓then_ret]
 exact retQ rfl (Res.one Tryz.results41 rfl) ⟨rfl, rfl⟩

def Tryz_strconv_Atoi_lay_ren : Go.Shelf.Ren := ⟨fun | 129 => 95 | 171 => 53 | 172 => 48 | 205 => 80 | 243 => 66 | 244 => 55 | 245 => 56 | 246 => 77 | 247 => 67 | 279 => 68 | 280 => 69 | 281 => 70 | 282 => 71 | 283 => 84 | 284 => 85 | 285 => 86 | 286 => 87 | 287 => 78 | 316 => 79 | 317 => 94 | 318 => 96 | 319 => 97 | 320 => 98 | 321 => 88 | 322 => 89 | 337 => 100 | 338 => 101 | n => n, fun | 0 => 0 | 1 => 1 | 2 => 2 | 3 => 3 | 4 => 4 | 5 => 5 | 6 => 6 | 7 => 7 | 8 => 8 | 9 => 9 | 10 => 10 | 11 => 11 | 12 => 12 | 13 => 13 | 14 => 14 | 15 => 15 | 16 => 16 | 17 => 17 | 18 => 18 | 19 => 19 | 20 => 20 | 21 => 21 | 23 => 86 | 27 => 138 | 28 => 32 | 37 => 80 | 40 => 136 | 41 => 108 | 46 => 78 | 47 => 143 | 51 => 77 | 52 => 87 | 53 => 76 | 54 => 123 | 55 => 135 | 63 => 111 | 64 => 121 | 69 => 117 | 70 => 89 | 71 => 90 | 72 => 91 | 74 => 82 | 75 => 83 | 76 => 84 | 77 => 85 | 80 => 69 | 81 => 151 | 83 => 92 | 84 => 114 | 85 => 103 | 86 => 104 | 104 => 56 | 105 => 109 | 106 => 110 | 108 => 120 | 111 => 142 | 114 => 137 | 115 => 95 | 116 => 96 | 117 => 97 | 118 => 98 | 119 => 131 | 122 => 94 | 123 => 99 | 124 => 100 | 127 => 101 | 128 => 93 | 137 => 132 | 138 => 133 | 139 => 134 | 143 => 128 | 144 => 129 | 145 => 130 | 164 => 112 | 165 => 113 | 167 => 102 | 168 => 105 | 169 => 106 | 170 => 107 | 171 => 122 | 172 => 124 | 173 => 125 | 174 => 126 | 175 => 115 | 176 => 116 | 209 => 118 | 210 => 119 | 211 => 139 | 212 => 140 | 213 => 141 | 214 => 127 | 232 => 144 | 233 => 145 | 236 => 40 | 238 => 146 | 239 => 147 | 240 => 148 | 241 => 149 | 242 => 150 | 243 => 152 | 244 => 153 | 245 => 154 | 246 => 155 | 247 => 156 | 248 => 157 | 249 => 158 | n => n, fun | 1 => 5 | 3 => 2 | 4 => 3 | 15 => 0 | 16 => 1 | 17 => 4 | 18 => 6 | 19 => 7 | n => n⟩
theorem Tryz_strconv_Atoi_laym0 : Go.Proofs.Lays.n172 Tryz.prog Tryz_strconv_Atoi_lay_ren := {
 mixed := by kernel_rfl,
 f129 := Tryz.func95.trans (congrArg some (by kernel_rfl)),
 f171 := Tryz.func53.trans (congrArg some (by kernel_rfl)),
 f172 := Tryz.func48.trans (congrArg some (by kernel_rfl)),
 f205 := Tryz.func80.trans (congrArg some (by kernel_rfl)),
 f243 := Tryz.func66.trans (congrArg some (by kernel_rfl)),
 f244 := Tryz.func55.trans (congrArg some (by kernel_rfl)),
 f245 := Tryz.func56.trans (congrArg some (by kernel_rfl)),
 f246 := Tryz.func77.trans (congrArg some (by kernel_rfl)),
 f247 := Tryz.func67.trans (congrArg some (by kernel_rfl)),
 f279 := Tryz.func68.trans (congrArg some (by kernel_rfl)),
 f280 := Tryz.func69.trans (congrArg some (by kernel_rfl)),
 f281 := Tryz.func70.trans (congrArg some (by kernel_rfl)),
 f282 := Tryz.func71.trans (congrArg some (by kernel_rfl)),
 f283 := Tryz.func84.trans (congrArg some (by kernel_rfl)),
 f284 := Tryz.func85.trans (congrArg some (by kernel_rfl)),
 f285 := Tryz.func86.trans (congrArg some (by kernel_rfl)),
 f286 := Tryz.func87.trans (congrArg some (by kernel_rfl)),
 f287 := Tryz.func78.trans (congrArg some (by kernel_rfl)),
 f316 := Tryz.func79.trans (congrArg some (by kernel_rfl)),
 f317 := Tryz.func94.trans (congrArg some (by kernel_rfl)),
 f318 := Tryz.func96.trans (congrArg some (by kernel_rfl)),
 f319 := Tryz.func97.trans (congrArg some (by kernel_rfl)),
 f320 := Tryz.func98.trans (congrArg some (by kernel_rfl)),
 f321 := Tryz.func88.trans (congrArg some (by kernel_rfl)),
 f322 := Tryz.func89.trans (congrArg some (by kernel_rfl)),
 f337 := Tryz.func100.trans (congrArg some (by kernel_rfl)),
 f338 := Tryz.func101.trans (congrArg some (by kernel_rfl)),
 t0 := Tryz.underlying0,
 a0 := Tryz.isAgg0,
 z0 := Tryz.sizeOf0,
 v0 := Tryz.zeroValue0,
 t2 := Tryz.underlying2,
 a2 := Tryz.isAgg2,
 z2 := Tryz.sizeOf2,
 v2 := Tryz.zeroValue2,
 t3 := Tryz.underlying3,
 a3 := Tryz.isAgg3,
 z3 := Tryz.sizeOf3,
 v3 := Tryz.zeroValue3,
 t4 := Tryz.underlying4,
 a4 := Tryz.isAgg4,
 z4 := Tryz.sizeOf4,
 v4 := Tryz.zeroValue4,
 t5 := Tryz.underlying5,
 a5 := Tryz.isAgg5,
 z5 := Tryz.sizeOf5,
 v5 := Tryz.zeroValue5,
 t9 := Tryz.underlying9,
 a9 := Tryz.isAgg9,
 z9 := Tryz.sizeOf9,
 v9 := Tryz.zeroValue9,
 t20 := Tryz.underlying20,
 a20 := Tryz.isAgg20,
 z20 := Tryz.sizeOf20,
 v20 := Tryz.zeroValue20,
 t21 := Tryz.underlying21,
 a21 := Tryz.isAgg21,
 z21 := Tryz.sizeOf21,
 v21 := Tryz.zeroValue21,
 t37 := Tryz.underlying80,
 a37 := Tryz.isAgg80,
 z37 := Tryz.sizeOf80,
 v37 := Tryz.zeroValue80,
 t46 := Tryz.underlying78,
 a46 := Tryz.isAgg78,
 z46 := Tryz.sizeOf78,
 v46 := Tryz.zeroValue78,
 t51 := Tryz.underlying77,
 a51 := Tryz.isAgg77,
 z51 := Tryz.sizeOf77,
 v51 := Tryz.zeroValue77,
 t53 := Tryz.underlying76,
 a53 := Tryz.isAgg76,
 z53 := Tryz.sizeOf76,
 v53 := Tryz.zeroValue76,
 t75 := Tryz.underlying83,
 a75 := Tryz.isAgg83,
 z75 := Tryz.sizeOf83,
 v75 := Tryz.zeroValue83,
 t76 := Tryz.underlying84,
 a76 := Tryz.isAgg84,
 z76 := Tryz.sizeOf84,
 v76 := Tryz.zeroValue84,
 t85 := Tryz.underlying103,
 a85 := Tryz.isAgg103,
 z85 := Tryz.sizeOf103,
 v85 := Tryz.zeroValue103,
 t127 := Tryz.underlying101,
 a127 := Tryz.isAgg101,
 z127 := Tryz.sizeOf101,
 v127 := Tryz.zeroValue101,
 t143 := Tryz.underlying128,
 a143 := Tryz.isAgg128,
 z143 := Tryz.sizeOf128,
 v143 := Tryz.zeroValue128,
 t145 := Tryz.underlying130,
 a145 := Tryz.isAgg130,
 z145 := Tryz.sizeOf130,
 v145 := Tryz.zeroValue130,
 t167 := Tryz.underlying102,
 a167 := Tryz.isAgg102,
 z167 := Tryz.sizeOf102,
 v167 := Tryz.zeroValue102,
 t168 := Tryz.underlying105,
 a168 := Tryz.isAgg105,
 z168 := Tryz.sizeOf105,
 v168 := Tryz.zeroValue105,
 t171 := Tryz.underlying122,
 a171 := Tryz.isAgg122,
 z171 := Tryz.sizeOf122,
 v171 := Tryz.zeroValue122,
 t173 := Tryz.underlying125,
 a173 := Tryz.isAgg125,
 z173 := Tryz.sizeOf125,
 v173 := Tryz.zeroValue125,
 t175 := Tryz.underlying115,
 a175 := Tryz.isAgg115,
 z175 := Tryz.sizeOf115,
 v175 := Tryz.zeroValue115,
 t210 := Tryz.underlying119,
 a210 := Tryz.isAgg119,
 z210 := Tryz.sizeOf119,
 v210 := Tryz.zeroValue119,
 t212 := Tryz.underlying140,
 a212 := Tryz.isAgg140,
 z212 := Tryz.sizeOf140,
 v212 := Tryz.zeroValue140,
 t213 := Tryz.underlying141,
 a213 := Tryz.isAgg141,
 z213 := Tryz.sizeOf141,
 t232 := Tryz.underlying144,
 a232 := Tryz.isAgg144,
 z232 := Tryz.sizeOf144,
 v232 := Tryz.zeroValue144,
 t233 := Tryz.underlying145,
 a233 := Tryz.isAgg145,
 z233 := Tryz.sizeOf145,
 v233 := Tryz.zeroValue145,
 g15 := by kernel_rfl,
 g16 := by kernel_rfl,
 g17 := by kernel_rfl,
 g18 := by kernel_rfl,
 g19 := by kernel_rfl }
theorem Tryz_strconv_Atoi_laym : Go.Proofs.LaysM.n172 Tryz.prog Tryz_strconv_Atoi_lay_ren := { Tryz_strconv_Atoi_laym0 with
 t80 := Tryz.underlying69,
 a80 := Tryz.isAgg69,
 z80 := Tryz.sizeOf69,
 v80 := Tryz.zeroValue69,
 i0 := by kernel_rfl,
 i2 := by kernel_rfl,
 i3 := by kernel_rfl,
 i4 := by kernel_rfl,
 i5 := by kernel_rfl,
 i9 := by kernel_rfl,
 i20 := by kernel_rfl,
 i21 := by kernel_rfl,
 i37 := by kernel_rfl,
 i46 := by kernel_rfl,
 i51 := by kernel_rfl,
 i53 := by kernel_rfl,
 i75 := by kernel_rfl,
 i76 := by kernel_rfl,
 i80 := by kernel_rfl,
 i85 := by kernel_rfl,
 i127 := by kernel_rfl,
 i143 := by kernel_rfl,
 i145 := by kernel_rfl,
 i167 := by kernel_rfl,
 i168 := by kernel_rfl,
 i171 := by kernel_rfl,
 i173 := by kernel_rfl,
 i175 := by kernel_rfl,
 i210 := by kernel_rfl,
 i212 := by kernel_rfl,
 i232 := by kernel_rfl,
 i233 := by kernel_rfl,
 m15 := by kernel_rfl,
 m16 := by kernel_rfl,
 m17 := by kernel_rfl,
 m18 := by kernel_rfl,
 m19 := by kernel_rfl }
theorem Tryz_strconv_Atoi_lay : Go.Proofs.LaysC.n172 Tryz.prog Tryz_strconv_Atoi_lay_ren := { Tryz_strconv_Atoi_laym with
 c0 := by kernel_rfl,
 c2 := by kernel_rfl,
 c3 := by kernel_rfl,
 c4 := by kernel_rfl,
 c5 := by kernel_rfl,
 c9 := by kernel_rfl,
 c20 := by kernel_rfl,
 c21 := by kernel_rfl,
 c37 := by kernel_rfl,
 c46 := by kernel_rfl,
 c51 := by kernel_rfl,
 c53 := by kernel_rfl,
 c75 := by kernel_rfl,
 c76 := by kernel_rfl,
 c80 := by kernel_rfl,
 c85 := by kernel_rfl,
 c127 := by kernel_rfl,
 c143 := by kernel_rfl,
 c145 := by kernel_rfl,
 c167 := by kernel_rfl,
 c168 := by kernel_rfl,
 c171 := by kernel_rfl,
 c173 := by kernel_rfl,
 c175 := by kernel_rfl,
 c210 := by kernel_rfl,
 c212 := by kernel_rfl,
 c213 := by kernel_rfl,
 c232 := by kernel_rfl,
 c233 := by kernel_rfl }
theorem strconv_Atoi_c (w : World) {A : Nat → Prop} (hA : ∀ b, w.heap.size ≤ b → A b) (hT : Er Tryz.prog 0 A w ∧ Er Tryz.prog 1 A w) (s : ByteArray) {r : Int × Bool} (hm : strconv_Atoi s = some r) : Ret Tryz.prog 48 #[.string s] w fun v w' => ∃ ev, v = .tuple #[.int .i64 r.1, ev] ∧ ErV ev r.2 ∧ Kp False w w' := by
 unfold strconv_Atoi at hm
 split at hm
 case isFalse => cases hm
 rename_i hs
 obtain rfl := Option.some.inj hm
 obtain ⟨⟨⟨t1, p1, hc1⟩, _, _⟩, ⟨t2, p2, hc2⟩, _, _⟩ := hT
 rcases h : Go.Lib.atoiAll s.data.toList with v | _ | _
 ·refine Calls.mono (Go.Proofs.Any.strconv_Atoi_ok Tryz_strconv_Atoi_lay s (by omega) v h w) ?_
  rintro _ w' ⟨rfl, hk⟩
  refine ⟨_, rfl, _, rfl, rfl, ?_⟩
  rcases hk with rfl | ⟨t, rfl⟩
  ·exact Kp.refl (Dw := False) _
  ·exact .of (Go.Lib.bytesWorld_below w _ t)
 ·refine Calls.mono (Go.Proofs.Any.strconv_Atoi_syntax Tryz_strconv_Atoi_lay s hs h (.iface t1 p1) w hc1 (.inr ⟨t1, p1, rfl⟩)) ?_
  rintro _ w' ⟨N, rfl, _, _, hb⟩
  exact ⟨_, rfl, _, rfl, ⟨_, _, rfl⟩, .of hb⟩
 ·refine Calls.mono (Go.Proofs.Any.strconv_Atoi_range Tryz_strconv_Atoi_lay s hs h (.iface t2 p2) w hc2 (.inr ⟨t2, p2, rfl⟩)) ?_
  rintro _ w' ⟨N, rfl, _, _, hb⟩
  exact ⟨_, rfl, _, rfl, ⟨_, _, rfl⟩, .of hb⟩

set_option maxRecDepth 4000 in
set_option maxHeartbeats 4000000 in
theorem staff_nat_trimmed_c (w : World) {A : Nat → Prop} (a_ : (List Int)) (v_a_ : Value) (h_a_ : Sl A w v_a_ a_) {r : (List Int)} (hm : staff_nat_trimmed a_ = some r) : Ret Tryz.prog 37 #[v_a_] w fun v w' => ∃ s0, v = s0 ∧ Sl A w' s0 r ∧ w = w' := by
 unfold staff_nat_trimmed at hm
 refine enter Tryz.func37 rfl Tryz.ntmps37 rfl ?_
 refine C_seq ?_
 refine C_region ?_
 refine V_as rfl rfl ?_
 refine V_to (fun _ _ => rfl) ?_
 refine C_seq ?_
 obtain ⟨o3, ho3, hm⟩ := Option.bind_eq_some_iff.1 hm
 refine C_cutG (ι := ((List Int) × Value)) (fun ⟨s4, v10⟩ => [(0, v10)]) (fun ⟨s4, v10⟩ => fun w' => o3 = .fin s4 ∧ Sl A w' v10 s4 ∧ w = w') ?_ ?_
 ·refine C_block ?_
  refine C_while ho3 (fun s12 a w' => ∃ i : Value, Has ⟨21, [], none⟩ a ([(0, i)]) ∧ Sl A w' i s12 ∧ w = w') (fun a ha => ⟨v_a_, ha.sub ⟨rfl, trivial⟩, ⟨h_a_, rfl⟩⟩) ?_
  rintro K s12 a _ ⟨v14, ha35, h15, rfl⟩ K22
  refine C_of ?_ ha35
  obtain ⟨x16, h17, h18⟩ := K22
  refine C_seq ?_
  refine C_seq ?_
  refine C_region ?_
  refine V_mv rfl rfl ?_
  refine V_y (Y_lenSl h15 rfl Tryz.underlying33 rfl) rfl rfl rfl ?_
  refine V_y (Y_gtr rfl rfl) rfl rfl rfl ?_
  refine V_mv rfl rfl ?_
  obtain ⟨s24, hs24, h17⟩ := Option.bind_eq_some_iff.1 h17
  refine V_cut 8 (fun _ : Unit => [(0, v14), (14, .bool s24)]) (fun _ w' => w = w') ?_ ?_
  ·simp only [List.take, List.drop]
   rcases Bool.eq_false_or_eq_true (decide ((0 : Int) < (s12.length : Int))) with hc23 | hc23
   ·rw [if_pos hc23] at hs24
    refine V_ge rfl rfl rfl hc23 ?_
    refine V_mv rfl rfl ?_
    refine V_ge rfl rfl rfl hc23 ?_
    refine V_mv rfl rfl ?_
    refine V_ge rfl rfl rfl hc23 ?_
    refine V_y (Y_lenSl h15 rfl Tryz.underlying33 rfl) rfl rfl rfl ?_
    refine V_ge rfl rfl rfl hc23 ?_
    refine V_y (Y_subI rfl rfl) rfl rfl rfl ?_
    refine V_ge rfl rfl rfl hc23 ?_
    obtain ⟨x25, hx25, hs24⟩ := Option.bind_eq_some_iff.1 hs24
    refine V_indexAddr h15 hx25 Tryz.underlying33 Tryz.sizeOf3 rfl rfl rfl ?_
    intro b26 o27 h28
    refine V_ge rfl rfl rfl hc23 ?_
    refine V_y (Y_load (El.int h28) Tryz.isAgg3 rfl) rfl rfl rfl ?_
    refine V_ge rfl rfl rfl hc23 ?_
    refine V_y (Y_eql rfl rfl) rfl rfl rfl ?_
    refine V_y (Y_pick_te rfl hc23 rfl) rfl rfl rfl ?_
    obtain rfl := Option.some.inj hs24
    exact V_end fun a ha => ⟨(), ha.sub ⟨rfl, rfl, trivial⟩, rfl⟩
   ·rw [if_neg (nt hc23)] at hs24
    refine V_gn rfl rfl rfl hc23 rfl rfl rfl ?_
    refine V_gn rfl rfl rfl hc23 rfl rfl rfl ?_
    refine V_gn rfl rfl rfl hc23 rfl rfl rfl ?_
    refine V_gn rfl rfl rfl hc23 rfl rfl rfl ?_
    refine V_gn rfl rfl rfl hc23 rfl rfl rfl ?_
    refine V_gn rfl rfl rfl hc23 rfl rfl rfl ?_
    refine V_gn rfl rfl rfl hc23 rfl rfl rfl ?_
    refine V_y (Y_pick_fe rfl hc23 rfl) rfl rfl rfl ?_
    obtain rfl := Option.some.inj hs24
    exact V_end fun a ha => ⟨(), ha.sub ⟨rfl, rfl, trivial⟩, rfl⟩
  simp only [List.take, List.drop]
  rintro _ _ rfl
  refine V_to (fun _ _ => rfl) ?_
  refine C_cond rfl (fun hc29 => ?_) (fun hc29 => ?_)
  ·rw [if_pos hc29] at h17
   refine C_skip_to (fun _ _ => rfl) ?_
   refine C_block ?_
   refine C_region ?_
   refine V_mv rfl rfl ?_
   refine V_mv rfl rfl ?_
   refine V_y (Y_lenSl h15 rfl Tryz.underlying33 rfl) rfl rfl rfl ?_
   refine V_y (Y_subI rfl rfl) rfl rfl rfl ?_
   obtain ⟨x30, hx30, h17⟩ := Option.bind_eq_some_iff.1 h17
   obtain ⟨v31, h32, h32y⟩ := sliceL_val hx30 h15
   refine V_y (Y_sliceLH h32y Tryz.underlying33 Tryz.sizeOf3 rfl rfl) rfl rfl rfl ?_
   refine V_as rfl rfl ?_
   obtain rfl := Option.some.inj h17
   refine V_end (fun a ha33 => ?_)
   exact ⟨x30, h18, ⟨v31, ha33.sub ⟨rfl, trivial⟩, ⟨h32, rfl⟩⟩⟩
  ·rw [if_neg (nt hc29)] at h17
   obtain rfl := Option.some.inj h17
   refine C_exit (fun a ha34 => ?_)
   exact ⟨(s12, v14), ha34.sub ⟨rfl, trivial⟩, ⟨h18.symm, h15, rfl⟩⟩
 rintro ⟨s4, v10⟩ _ ⟨rfl, h11, rfl⟩ a ha9
 rw [Lp.andThen_fin] at hm
 refine C_at (n := ⟨21, [], none⟩) (fun _ _ => rfl) ?_ ha9
 refine C_seq ?_
 refine C_region ?_
 refine V_mv rfl rfl ?_
 refine V_as rfl rfl ?_
 refine V_to (fun _ _ => rfl) ?_
 obtain rfl := Option.some.inj hm
 refine C_ret ?_
 try simp only [↓inBlock_ret, ↓then_ret]
 exact retQ rfl (Res.one Tryz.results37 rfl) ⟨v10, rfl, h11, rfl⟩

set_option maxRecDepth 4000 in
set_option maxHeartbeats 4000000 in
theorem staff_readNat_c (w : World) {A : Nat → Prop} (hA : ∀ b, w.heap.size ≤ b → A b) (hT : Fz Tryz_FR A w) (s : ByteArray) {r : (List Int)} (hm : staff_readNat s = some r) : Ret Tryz.prog 43 #[.string s] w fun v w' => ∃ s0, v = s0 ∧ Sl A w' s0 r ∧ Kp False w w' := by
 unfold staff_readNat at hm
 refine enter Tryz.func43 rfl Tryz.ntmps43 rfl ?_
 have hA0 := hA
 have hB := Nat.le_refl w.heap.size
 have hK : Tr False w.heap.size A w A w := Tr.refl (Dw := False) hA
 have hH : Hp w.heap.size A w [] := Hp.nil
 refine C_seq ?_
 refine C_region ?_
 refine V_as rfl rfl ?_
 refine V_to (fun _ _ => rfl) ?_
 refine C_seq ?_
 refine C_region ?_
 refine V_as rfl rfl ?_
 refine V_to (fun _ _ => rfl) ?_
 refine C_seq ?_
 replace hH : Hp w.heap.size A w (obS (α := Int) 3 (.slice none 0 0) ([] : (List Int)) :: []) := Hp.addNil (α := Int) (e := 3) hH
 obtain ⟨o1, ho1, hm⟩ := Option.bind_eq_some_iff.1 hm
 refine C_cutG (ι := ((ByteArray × (List Int)) × Value × (Nat → Prop))) (fun ⟨s2, v8, A10⟩ => [(3, v8)]) (fun ⟨s2, v8, A10⟩ => fun w' => o1 = .fin s2 ∧ Hp w.heap.size A10 w' (obS (α := Int) 3 v8 s2.2 :: []) ∧ Tr False w.heap.size A w A10 w') ?_ ?_
 ·refine C_block ?_
  refine C_while ho1 (fun s12 a w' => ∃ i : (Value × (Nat → Prop)), Has ⟨30, [], none⟩ a ([(0, .string s12.1), (3, i.1)]) ∧ Hp w.heap.size i.2 w' (obS (α := Int) 3 i.1 s12.2 :: []) ∧ Tr False w.heap.size A w i.2 w') (fun a ha => ⟨(.slice none 0 0, A), ha.sub ⟨rfl, rfl, trivial⟩, ⟨hH, Tr.refl (Dw := False) hA⟩⟩) ?_
  rintro K s12 a w13 ⟨⟨v14, A16⟩, ha47, hH17, hr3⟩ K24
  refine C_of ?_ ha47
  replace hK := Tr.trans (Dw := False) hK hr3
  replace hB := Nat.le_trans hB hr3.ex.size
  replace hA := hr3.new
  replace hH : Hp w.heap.size A16 w13 (obS (α := Int) 3 v14 s12.2 :: []) := hH17
  obtain ⟨x18, h19, h20⟩ := K24
  refine C_seq ?_
  refine C_seq ?_
  refine C_region ?_
  refine V_mv rfl rfl ?_
  refine V_y (Y_lenStr rfl Tryz.underlying9 rfl) rfl rfl rfl ?_
  refine V_y (Y_gtr rfl rfl) rfl rfl rfl ?_
  refine V_to (fun _ _ => rfl) ?_
  refine C_cond rfl (fun hc25 => ?_) (fun hc25 => ?_)
  ·rw [if_pos hc25] at h19
   refine C_skip_to (fun _ _ => rfl) ?_
   refine C_block ?_
   refine C_seq ?_
   refine C_region ?_
   refine V_mv rfl rfl ?_
   refine V_y (Y_lenStr rfl Tryz.underlying9 rfl) rfl rfl rfl ?_
   refine V_y (Y_subI rfl rfl) rfl rfl rfl ?_
   refine V_y (Y_max2 rfl rfl) rfl rfl rfl ?_
   refine V_as rfl rfl ?_
   refine V_to (fun _ _ => rfl) ?_
   refine C_seq ?_
   refine C_region ?_
   refine V_mv rfl rfl ?_
   refine V_mv rfl rfl ?_
   obtain ⟨x26, hx26, h19⟩ := Option.bind_eq_some_iff.1 h19
   refine V_y (Y_sliceSL hx26 Tryz.underlying9 rfl rfl) rfl rfl rfl ?_
   obtain ⟨x27, hx27, h19⟩ := Option.bind_eq_some_iff.1 h19
   refine V_call Tryz.call48 rfl rfl rfl rfl (strconv_Atoi_c w13 hA ⟨((Fz.tr (Dw := False) hT hK)).2.1, ((Fz.tr (Dw := False) hT hK)).2.2⟩ x26 hx27) ?_
   rintro _ w30 ⟨v28, rfl, h29, hk31⟩
   have ht32 := Kp.tr (Dw := False) hk31 hA hB
   replace hH := Hp.kp (Dw := False) hH hk31
   replace hr3 := Tr.trans (Dw := False) hr3 ht32
   replace hB := Nat.le_trans hB ht32.ex.size
   replace hA := ht32.new
   refine V_mv rfl rfl ?_
   refine V_y (Y_extract rfl rfl) rfl rfl rfl ?_
   refine V_y (Y_extract rfl rfl) rfl rfl rfl ?_
   refine V_as rfl rfl ?_
   refine V_as rfl rfl ?_
   refine V_to (fun _ _ => rfl) ?_
   refine C_seq ?_
   refine C_region ?_
   refine V_mv rfl rfl ?_
   refine V_mv rfl rfl ?_
   refine V_buildSlice (Dw := False) (l := ([x27.1] : List Int)) (len := 1) Tryz.underlying33 Tryz.sizeOf3 Tryz.zeroValue3 rfl (by with_unfolding_all rfl) (show (1 * 1 : Nat) ≠ 0 by decide) (show (1 * 1 : Nat) ≤ 2 ^ 24 by decide) hA ⟨[.int .i64 x27.1], _, rfl, rfl, rfl⟩ rfl rfl ?_
   intro v33 w34 hk36 h35
   have ht37 := Kp.tr (Dw := False) hk36 hA hB
   replace hH := Hp.kp (Dw := False) hH hk36
   replace hr3 := Tr.trans (Dw := False) hr3 ht37
   replace hB := Nat.le_trans hB ht37.ex.size
   replace hA := ht37.new
   obtain ⟨x38, hx38, h19⟩ := Option.bind_eq_some_iff.1 h19
   refine V_appendH (Dw := False) (e := 3) (v := v14) (l := s12.2) (ti := Tryz.t3) (bytes := 8) (lim := 17592186044416) hH (i := 0) rfl h35 hx38 Tryz.underlying33 Tryz_info3 rfl rfl rfl rfl (by decide) (by decide) (by decide) hB hA rfl rfl rfl ?_
   intro v39 w40 A41 hH42 ht43
   replace hr3 := Tr.trans (Dw := False) hr3 ht43
   replace hH : Hp w.heap.size A41 w40 (obS (α := Int) 3 v39 x38 :: []) := hH42
   refine V_as rfl rfl ?_
   refine V_to (fun _ _ => rfl) ?_
   refine C_region ?_
   refine V_mv rfl rfl ?_
   refine V_mv rfl rfl ?_
   obtain ⟨x44, hx44, h19⟩ := Option.bind_eq_some_iff.1 h19
   refine V_y (Y_sliceSH hx44 Tryz.underlying9 rfl rfl) rfl rfl rfl ?_
   refine V_as rfl rfl ?_
   obtain rfl := Option.some.inj h19
   refine V_end (fun a ha45 => ?_)
   exact ⟨(x44, x38), h20, ⟨(v39, A41), ha45.sub ⟨rfl, rfl, trivial⟩, ⟨hH, hr3⟩⟩⟩
  ·rw [if_neg (nt hc25)] at h19
   obtain rfl := Option.some.inj h19
   refine C_exit (fun a ha46 => ?_)
   exact ⟨((s12.1, s12.2), v14, A16), ha46.sub ⟨rfl, trivial⟩, ⟨h20.symm, hH, hr3⟩⟩
 rintro ⟨s2, v8, A10⟩ w5 ⟨rfl, hH11, hk6⟩ a ha7
 rw [Lp.andThen_fin] at hm
 replace hK := Tr.trans (Dw := False) hK hk6
 replace hA := hk6.new
 replace hH : Hp w.heap.size A10 w5 (obS (α := Int) 3 v8 s2.2 :: []) := hH11
 refine C_at (n := ⟨30, [], none⟩) (fun _ _ => rfl) ?_ ha7
 refine C_seq ?_
 refine C_region ?_
 refine V_mv rfl rfl ?_
 obtain ⟨A48, ht49, h50, hH51⟩ := Hp.freeze (Dw := False) (α := Int) (v := v8) (l := s2.2) hH (i := 0) rfl hA
 replace hK := Tr.trans (Dw := False) hK ht49
 replace hH : Hp w.heap.size A48 w5 ([]) := hH51
 obtain ⟨x53, hx53, hm⟩ := Option.bind_eq_some_iff.1 hm
 refine V_call Tryz.call37 rfl rfl rfl rfl (staff_nat_trimmed_c w5 s2.2 v8 h50 hx53) ?_
 rintro v54 _ ⟨_, rfl, h55, rfl⟩
 refine V_as rfl rfl ?_
 refine V_to (fun _ _ => rfl) ?_
 obtain rfl := Option.some.inj hm
 refine C_ret ?_
 try simp only [↓inBlock_ret, ↓then_ret]
 exact retQ rfl (Res.one Tryz.results43 rfl) ⟨v54, rfl, (Sl.out (Dw := False) h55 hA0 hK), hK.kp⟩

set_option maxRecDepth 4000 in
set_option maxHeartbeats 4000000 in
theorem staff_nat_compare_c (w : World) {A : Nat → Prop} (hA : ∀ b, w.heap.size ≤ b → A b) (a_ : (List Int)) (v_a_ : Value) (h_a_ : Sl A w v_a_ a_) (b : (List Int)) (v_b : Value) (h_b : Sl A w v_b b) {r : Int} (hm : staff_nat_compare a_ b = some r) : Ret Tryz.prog 27 #[v_a_, v_b] w fun v w' => v = .int .i64 r ∧ Kp Dw w w' := by
 unfold staff_nat_compare at hm
 refine enter Tryz.func27 rfl Tryz.ntmps27 rfl ?_
 have hA0 := hA
 have hB := Nat.le_refl w.heap.size
 have hK : Tr Dw w.heap.size A w A w := Tr.refl (Dw := Dw) hA
 have hH : Hp w.heap.size A w [] := Hp.nil
 refine C_seq ?_
 refine C_region ?_
 refine V_as rfl rfl ?_
 refine V_to (fun _ _ => rfl) ?_
 refine C_seq ?_
 refine C_seq ?_
 refine C_region ?_
 refine V_mv rfl rfl ?_
 refine V_y (Y_lenSl h_a_ rfl Tryz.underlying33 rfl) rfl rfl rfl ?_
 refine V_mv rfl rfl ?_
 refine V_y (Y_lenSl h_b rfl Tryz.underlying33 rfl) rfl rfl rfl ?_
 refine V_y (Y_neq rfl rfl) rfl rfl rfl ?_
 refine V_to (fun _ _ => rfl) ?_
 refine C_cond rfl (fun hc5 => ?_) (fun hc5 => ?_)
 ·rw [if_pos hc5] at hm
  refine C_seq ?_
  refine C_seq ?_
  refine C_region ?_
  refine V_mv rfl rfl ?_
  refine V_y (Y_lenSl h_a_ rfl Tryz.underlying33 rfl) rfl rfl rfl ?_
  refine V_mv rfl rfl ?_
  refine V_y (Y_lenSl h_b rfl Tryz.underlying33 rfl) rfl rfl rfl ?_
  refine V_y (Y_lss rfl rfl) rfl rfl rfl ?_
  refine V_to (fun _ _ => rfl) ?_
  refine C_cond rfl (fun hc6 => ?_) (fun hc6 => ?_)
  ·rw [if_pos hc6] at hm
   refine C_seq ?_
   refine C_region ?_
   refine V_as rfl rfl ?_
   refine V_to (fun _ _ => rfl) ?_
   obtain rfl := Option.some.inj hm
   refine C_ret ?_
   try simp only [↓inBlock_ret, ↓then_ret]
   exact retQ rfl (Res.one Tryz.results27 rfl) ⟨rfl, hK.kp⟩
  ·rw [if_neg (nt hc6)] at hm
   refine C_skip_to (fun _ _ => rfl) ?_
   refine C_seq ?_
   refine C_region ?_
   refine V_as rfl rfl ?_
   refine V_to (fun _ _ => rfl) ?_
   obtain rfl := Option.some.inj hm
   refine C_ret ?_
   try simp only [↓inBlock_ret, ↓then_ret]
   exact retQ rfl (Res.one Tryz.results27 rfl) ⟨rfl, hK.kp⟩
 ·rw [if_neg (nt hc5)] at hm
  refine C_skip_to (fun _ _ => rfl) ?_
  refine C_seq ?_
  refine C_seq ?_
  refine C_region ?_
  refine V_mv rfl rfl ?_
  refine V_y (Y_lenSl h_a_ rfl Tryz.underlying33 rfl) rfl rfl rfl ?_
  refine V_y (Y_subI rfl rfl) rfl rfl rfl ?_
  refine V_as rfl rfl ?_
  refine V_to (fun _ _ => rfl) ?_
  obtain ⟨o7, ho7, hm⟩ := Option.bind_eq_some_iff.1 hm
  refine C_cutG (ι := (Int × (Nat → Prop))) (fun ⟨s8, A14⟩ => []) (fun ⟨s8, A14⟩ => fun w' => o7 = .fin s8 ∧ Hp w.heap.size A14 w' ([]) ∧ Tr Dw w.heap.size A w A14 w') ?_ ?_
  ·refine C_block ?_
   refine C_while ho7 (fun s16 a w' => ∃ i : (Nat → Prop), Has ⟨41, [], none⟩ a ([(0, v_a_), (1, v_b), (5, .int .i64 s16)]) ∧ Hp w.heap.size i w' ([]) ∧ Tr Dw w.heap.size A w i w') (fun a ha => ⟨A, ha.sub ⟨rfl, rfl, rfl, trivial⟩, ⟨hH, Tr.refl (Dw := Dw) hA⟩⟩) ?_
   rintro K s16 a w17 ⟨A18, ha52, hH19, hr9⟩ K26
   refine C_of ?_ ha52
   replace h_a_ := Sl.tr h_a_ hr9
   replace h_b := Sl.tr h_b hr9
   replace hK := Tr.trans hK hr9
   replace hB := Nat.le_trans hB hr9.ex.size
   replace hA := hr9.new
   replace hH : Hp w.heap.size A18 w17 ([]) := hH19
   obtain ⟨x20, h21, h22⟩ := K26
   refine C_seq ?_
   refine C_seq ?_
   refine C_region ?_
   refine V_mv rfl rfl ?_
   refine V_y (Y_geq rfl rfl) rfl rfl rfl ?_
   refine V_to (fun _ _ => rfl) ?_
   refine C_cond rfl (fun hc27 => ?_) (fun hc27 => ?_)
   ·rw [if_pos hc27] at h21
    refine C_skip_to (fun _ _ => rfl) ?_
    refine C_seq ?_
    refine C_block ?_
    refine C_seq ?_
    refine C_region_q (Dw := Dw) Tryz_mixed (by kernel_rfl) ?_
    refine VQ_y (fun w' hw' => Y_move rfl) rfl rfl rfl ?_
    refine VQ_y (fun w' hw' => Y_move rfl) rfl rfl rfl ?_
    obtain ⟨x28, hx28, h21⟩ := Option.bind_eq_some_iff.1 h21
    refine VQ_indexAddr h_a_ hx28 Tryz.underlying33 Tryz.sizeOf3 rfl rfl rfl ?_
    intro b29 o30 h31
    refine VQ_y (fun w' hw' => Y_load (El.int (El.kp (Dw := Dw) h31 hw')) Tryz.isAgg3 rfl) rfl rfl rfl ?_
    refine VQ_y (fun w' hw' => Y_move rfl) rfl rfl rfl ?_
    refine VQ_y (fun w' hw' => Y_move rfl) rfl rfl rfl ?_
    obtain ⟨x32, hx32, h21⟩ := Option.bind_eq_some_iff.1 h21
    refine VQ_indexAddr h_b hx32 Tryz.underlying33 Tryz.sizeOf3 rfl rfl rfl ?_
    intro b33 o34 h35
    refine VQ_y (fun w' hw' => Y_load (El.int (El.kp (Dw := Dw) h35 hw')) Tryz.isAgg3 rfl) rfl rfl rfl ?_
    refine VQ_y (fun w' hw' => Y_neq rfl rfl) rfl rfl rfl ?_
    refine VQ_to (fun _ _ => rfl) (fun w36 hk37 => ?_)
    have ht38 := Kp.tr hk37 hA hB
    replace hH := Hp.kp hH hk37
    replace h_a_ := Sl.tr h_a_ ht38
    replace h_b := Sl.tr h_b ht38
    replace hK := Tr.trans hK ht38
    replace hr9 := Tr.trans hr9 ht38
    replace hB := Nat.le_trans hB ht38.ex.size
    replace hA := ht38.new
    refine C_cond rfl (fun hc39 => ?_) (fun hc39 => ?_)
    ·rw [if_pos hc39] at h21
     refine C_seq ?_
     refine C_seq ?_
     refine C_region_q (Dw := Dw) Tryz_mixed (by kernel_rfl) ?_
     refine VQ_y (fun w' hw' => Y_move rfl) rfl rfl rfl ?_
     refine VQ_y (fun w' hw' => Y_move rfl) rfl rfl rfl ?_
     refine VQ_indexAddr h_a_ hx28 Tryz.underlying33 Tryz.sizeOf3 rfl rfl rfl ?_
     intro b40 o41 h42
     refine VQ_y (fun w' hw' => Y_load (El.int (El.kp (Dw := Dw) h42 hw')) Tryz.isAgg3 rfl) rfl rfl rfl ?_
     refine VQ_y (fun w' hw' => Y_move rfl) rfl rfl rfl ?_
     refine VQ_y (fun w' hw' => Y_move rfl) rfl rfl rfl ?_
     refine VQ_indexAddr h_b hx32 Tryz.underlying33 Tryz.sizeOf3 rfl rfl rfl ?_
     intro b43 o44 h45
     refine VQ_y (fun w' hw' => Y_load (El.int (El.kp (Dw := Dw) h45 hw')) Tryz.isAgg3 rfl) rfl rfl rfl ?_
     refine VQ_y (fun w' hw' => Y_lss rfl rfl) rfl rfl rfl ?_
     refine VQ_to (fun _ _ => rfl) (fun w46 hk47 => ?_)
     have ht48 := Kp.tr hk47 hA hB
     replace hK := Tr.trans hK ht48
     refine C_cond rfl (fun hc49 => ?_) (fun hc49 => ?_)
     ·rw [if_pos hc49] at h21
      refine C_seq ?_
      refine C_region ?_
      refine V_as rfl rfl ?_
      refine V_to (fun _ _ => rfl) ?_
      obtain rfl := Option.some.inj h21
      obtain rfl := (h22 : Lp.rt _ = _)
      rw [Lp.andThen_rt] at hm
      obtain rfl := Option.some.inj hm
      refine C_ret ?_
      try simp only [↓inBlock_ret, ↓then_ret]
      exact retQ rfl (Res.one Tryz.results27 rfl) ⟨rfl, hK.kp⟩
     ·rw [if_neg (nt hc49)] at h21
      refine C_skip_to (fun _ _ => rfl) ?_
      refine C_seq ?_
      refine C_region ?_
      refine V_as rfl rfl ?_
      refine V_to (fun _ _ => rfl) ?_
      obtain rfl := Option.some.inj h21
      obtain rfl := (h22 : Lp.rt _ = _)
      rw [Lp.andThen_rt] at hm
      obtain rfl := Option.some.inj hm
      refine C_ret ?_
      try simp only [↓inBlock_ret, ↓then_ret]
      exact retQ rfl (Res.one Tryz.results27 rfl) ⟨rfl, hK.kp⟩
    ·rw [if_neg (nt hc39)] at h21
     refine C_skip_to (fun _ _ => rfl) ?_
     refine C_region ?_
     refine V_mv rfl rfl ?_
     refine V_y (Y_subI rfl rfl) rfl rfl rfl ?_
     refine V_as rfl rfl ?_
     obtain rfl := Option.some.inj h21
     refine V_end (fun a ha50 => ?_)
     exact ⟨w64 (s16 - 1), h22, ⟨A18, ha50.sub ⟨rfl, rfl, rfl, trivial⟩, ⟨hH, hr9⟩⟩⟩
   ·rw [if_neg (nt hc27)] at h21
    obtain rfl := Option.some.inj h21
    refine C_exit (fun a ha51 => ?_)
    exact ⟨(s16, A18), ha51.sub trivial, ⟨h22.symm, hH, hr9⟩⟩
  rintro ⟨s8, A14⟩ w11 ⟨rfl, hH15, hk12⟩ a ha13
  rw [Lp.andThen_fin] at hm
  replace hK := Tr.trans hK hk12
  replace hA := hk12.new
  replace hH : Hp w.heap.size A14 w11 ([]) := hH15
  refine C_at (n := ⟨41, [], none⟩) (fun _ _ => rfl) ?_ ha13
  refine C_seq ?_
  refine C_region ?_
  refine V_as rfl rfl ?_
  refine V_to (fun _ _ => rfl) ?_
  obtain rfl := Option.some.inj hm
  refine C_ret ?_
  try simp only [↓inBlock_ret, ↓then_ret]
  exact retQ rfl (Res.one Tryz.results27 rfl) ⟨rfl, hK.kp⟩

set_option maxRecDepth 4000 in
set_option maxHeartbeats 4000000 in
theorem staff_nat_part_c (w : World) {A : Nat → Prop} (hA : ∀ b, w.heap.size ≤ b → A b) (a_ : (List Int)) (v_a_ : Value) (h_a_ : Sl A w v_a_ a_) (n : Int) {r : ((List Int) × Int)} (hm : staff_nat_part a_ n = some r) : Ret Tryz.prog 32 #[v_a_, .int .i64 n] w fun v w' => ∃ s0, v = .tuple #[s0, .int .i64 r.2] ∧ Sl A w' s0 r.1 ∧ Kp Dw w w' := by
 unfold staff_nat_part at hm
 refine enter Tryz.func32 rfl Tryz.ntmps32 rfl ?_
 have hA0 := hA
 have hB := Nat.le_refl w.heap.size
 have hK : Tr Dw w.heap.size A w A w := Tr.refl (Dw := Dw) hA
 have hH : Hp w.heap.size A w [] := Hp.nil
 refine C_seq ?_
 refine C_region ?_
 refine V_as rfl rfl ?_
 refine V_as rfl rfl ?_
 refine V_to (fun _ _ => rfl) ?_
 refine C_seq ?_
 refine C_region ?_
 refine V_mv rfl rfl ?_
 refine V_y (Y_lenSl h_a_ rfl Tryz.underlying33 rfl) rfl rfl rfl ?_
 obtain ⟨x3, hx3, hm⟩ := Option.bind_eq_some_iff.1 hm
 refine V_makeH (Dw := Dw) (e := 3) (ti := Tryz.t3) hH hx3 (fun _ _ => rfl) Tryz.underlying33 Tryz_info3 rfl rfl rfl (by decide) (by decide) hB hA rfl rfl rfl ?_
 intro v4 w5 A6 hH7 ht8
 replace h_a_ := Sl.tr h_a_ ht8
 replace hK := Tr.trans hK ht8
 replace hB := Nat.le_trans hB ht8.ex.size
 replace hA := ht8.new
 replace hH : Hp w.heap.size A6 w5 (obS (α := Int) 3 v4 x3 :: []) := hH7
 refine V_as rfl rfl ?_
 refine V_to (fun _ _ => rfl) ?_
 refine C_seq ?_
 refine C_region ?_
 refine V_as rfl rfl ?_
 refine V_to (fun _ _ => rfl) ?_
 refine C_seq ?_
 refine C_seq ?_
 refine C_region ?_
 refine V_mv rfl rfl ?_
 refine V_y (Y_lenSl h_a_ rfl Tryz.underlying33 rfl) rfl rfl rfl ?_
 refine V_y (Y_subI rfl rfl) rfl rfl rfl ?_
 refine V_as rfl rfl ?_
 refine V_to (fun _ _ => rfl) ?_
 obtain ⟨o9, ho9, hm⟩ := Option.bind_eq_some_iff.1 hm
 refine C_cutG (ι := (((List Int) × Int × Int) × Value × (Nat → Prop))) (fun ⟨s10, v16, A18⟩ => [(6, v16), (7, .int .i64 s10.2.1)]) (fun ⟨s10, v16, A18⟩ => fun w' => o9 = .fin s10 ∧ Hp w.heap.size A18 w' (obS (α := Int) 3 v16 s10.1 :: []) ∧ Tr Dw w.heap.size A6 w5 A18 w') ?_ ?_
 ·refine C_block ?_
  refine C_while ho9 (fun s20 a w' => ∃ i : (Value × (Nat → Prop)), Has ⟨39, [], none⟩ a ([(0, v_a_), (1, .int .i64 n), (6, i.1), (7, .int .i64 s20.2.1), (8, .int .i64 s20.2.2)]) ∧ Hp w.heap.size i.2 w' (obS (α := Int) 3 i.1 s20.1 :: []) ∧ Tr Dw w.heap.size A6 w5 i.2 w') (fun a ha => ⟨(v4, A6), ha.sub ⟨rfl, rfl, rfl, rfl, rfl, trivial⟩, ⟨hH, Tr.refl (Dw := Dw) hA⟩⟩) ?_
  rintro K s20 a w21 ⟨⟨v22, A24⟩, ha54, hH25, hr11⟩ K32
  refine C_of ?_ ha54
  replace h_a_ := Sl.tr h_a_ hr11
  replace hB := Nat.le_trans hB hr11.ex.size
  replace hA := hr11.new
  replace hH : Hp w.heap.size A24 w21 (obS (α := Int) 3 v22 s20.1 :: []) := hH25
  obtain ⟨x26, h27, h28⟩ := K32
  refine C_seq ?_
  refine C_seq ?_
  refine C_region ?_
  refine V_mv rfl rfl ?_
  refine V_y (Y_geq rfl rfl) rfl rfl rfl ?_
  refine V_to (fun _ _ => rfl) ?_
  refine C_cond rfl (fun hc33 => ?_) (fun hc33 => ?_)
  ·rw [if_pos hc33] at h27
   refine C_skip_to (fun _ _ => rfl) ?_
   refine C_seq ?_
   refine C_block ?_
   refine C_seq ?_
   refine C_region ?_
   refine V_mv rfl rfl ?_
   refine V_y (Y_mulI rfl rfl) rfl rfl rfl ?_
   refine V_mv rfl rfl ?_
   refine V_mv rfl rfl ?_
   obtain ⟨x34, hx34, h27⟩ := Option.bind_eq_some_iff.1 h27
   refine V_indexAddr h_a_ hx34 Tryz.underlying33 Tryz.sizeOf3 rfl rfl rfl ?_
   intro b35 o36 h37
   refine V_y (Y_load (El.int h37) Tryz.isAgg3 rfl) rfl rfl rfl ?_
   refine V_y (Y_addI rfl rfl) rfl rfl rfl ?_
   refine V_as rfl rfl ?_
   refine V_to (fun _ _ => rfl) ?_
   refine C_region_ch (Dw := Dw) A24 11 [(1, 0), (1, 1), (1, 2), (1, 3), (1, 4), (1, 5), (1, 6), (1, 7), (0, 8), (3, 9), (1, 10)] Tryz_mixed (by kernel_rfl) (fun w38 hk39 => ?_)
   have ht40 := Kp.tr hk39 hA hB
   replace hH := Hp.kp hH hk39
   replace hr11 := Tr.trans hr11 ht40
   replace hB := Nat.le_trans hB ht40.ex.size
   replace hA := ht40.new
   refine CH_q2 (Dw := Dw) rfl ?_
   refine VQ_y (fun w' hw' => Y_move rfl) rfl rfl rfl ?_
   refine VQ_CH (Dw := Dw) ?_
   refine CH_q2 (Dw := Dw) rfl ?_
   refine VQ_y (fun w' hw' => Y_move rfl) rfl rfl rfl ?_
   refine VQ_CH (Dw := Dw) ?_
   refine CH_q2 (Dw := Dw) rfl ?_
   refine VQ_y (fun w' hw' => Y_move rfl) rfl rfl rfl ?_
   refine VQ_CH (Dw := Dw) ?_
   refine CH_q2 (Dw := Dw) rfl ?_
   refine VQ_y (fun w' hw' => Y_move rfl) rfl rfl rfl ?_
   refine VQ_CH (Dw := Dw) ?_
   refine CH_q2 (Dw := Dw) rfl ?_
   obtain ⟨x41, hx41, h27⟩ := Option.bind_eq_some_iff.1 h27
   refine VQ_y (fun w' hw' => Y_quo hx41 rfl rfl) rfl rfl rfl ?_
   refine VQ_CH (Dw := Dw) ?_
   refine CH_q2 (Dw := Dw) rfl ?_
   refine VQ_y (fun w' hw' => Y_move rfl) rfl rfl rfl ?_
   refine VQ_CH (Dw := Dw) ?_
   refine CH_q2 (Dw := Dw) rfl ?_
   refine VQ_y (fun w' hw' => Y_move rfl) rfl rfl rfl ?_
   refine VQ_CH (Dw := Dw) ?_
   refine CH_q2 (Dw := Dw) rfl ?_
   obtain ⟨x42, hx42, h27⟩ := Option.bind_eq_some_iff.1 h27
   refine VQ_y (fun w' hw' => Y_rem hx42 rfl rfl) rfl rfl rfl ?_
   refine VQ_CH (Dw := Dw) ?_
   refine CH_q1 (Dw := Dw) rfl ?_
   obtain ⟨x43, hx43, h27⟩ := Option.bind_eq_some_iff.1 h27
   refine VQ_indexAddrH (α := Int) (e := 3) (v := v22) (l := s20.1) hH (i := 0) rfl hx43 Tryz.underlying33 Tryz.sizeOf3 rfl rfl rfl ?_
   intro b44 o45 h46 hl47
   refine VQ_CH (Dw := Dw) ?_
   refine CH_l1 (Dw := Dw) (k := 1) rfl ?_
   obtain ⟨x48, hx48, h27⟩ := Option.bind_eq_some_iff.1 h27
   refine V_storeH (Dw := Dw) (α := Int) (e := 3) (v := v22) (l := s20.1) hH (i := 0) rfl hl47 hx48 rfl Tryz.sizeOf3 rfl hB hA rfl rfl ?_
   intro w49 hH50 ht51
   replace hr11 := Tr.trans hr11 ht51
   replace hH : Hp w.heap.size A24 w49 (obS (α := Int) 3 v22 x48 :: []) := hH50
   refine V_CHx (Dw := Dw) (XA.tr (Dw := Dw) ht51) ?_
   refine CH_q2 (Dw := Dw) rfl ?_
   refine VQ_y (fun w' hw' => Y_assign rfl) rfl rfl rfl ?_
   refine VQ_CH (Dw := Dw) ?_
   refine CH_tail (Dw := Dw) ?_
   show V _ _ _ _ [] _ _
   refine V_to (fun _ _ => rfl) ?_
   refine C_region ?_
   refine V_mv rfl rfl ?_
   refine V_y (Y_subI rfl rfl) rfl rfl rfl ?_
   refine V_as rfl rfl ?_
   obtain rfl := Option.some.inj h27
   refine V_end (fun a ha52 => ?_)
   exact ⟨(x48, x42, w64 (s20.2.2 - 1)), h28, ⟨(v22, A24), ha52.sub ⟨rfl, rfl, rfl, rfl, rfl, trivial⟩, ⟨hH, hr11⟩⟩⟩
  ·rw [if_neg (nt hc33)] at h27
   obtain rfl := Option.some.inj h27
   refine C_exit (fun a ha53 => ?_)
   exact ⟨((s20.1, s20.2.1, s20.2.2), v22, A24), ha53.sub ⟨rfl, rfl, trivial⟩, ⟨h28.symm, hH, hr11⟩⟩
 rintro ⟨s10, v16, A18⟩ w13 ⟨rfl, hH19, hk14⟩ a ha15
 rw [Lp.andThen_fin] at hm
 replace hK := Tr.trans hK hk14
 replace hA := hk14.new
 replace hH : Hp w.heap.size A18 w13 (obS (α := Int) 3 v16 s10.1 :: []) := hH19
 refine C_at (n := ⟨39, [], none⟩) (fun _ _ => rfl) ?_ ha15
 refine C_seq ?_
 refine C_region ?_
 refine V_mv rfl rfl ?_
 obtain ⟨A55, ht56, h57, hH58⟩ := Hp.freeze (Dw := Dw) (α := Int) (v := v16) (l := s10.1) hH (i := 0) rfl hA
 replace hK := Tr.trans hK ht56
 replace hH : Hp w.heap.size A55 w13 ([]) := hH58
 obtain ⟨x60, hx60, hm⟩ := Option.bind_eq_some_iff.1 hm
 refine V_call Tryz.call37 rfl rfl rfl rfl (staff_nat_trimmed_c w13 s10.1 v16 h57 hx60) ?_
 rintro v61 _ ⟨_, rfl, h62, rfl⟩
 refine V_mv rfl rfl ?_
 refine V_as rfl rfl ?_
 refine V_as rfl rfl ?_
 refine V_to (fun _ _ => rfl) ?_
 obtain rfl := Option.some.inj hm
 refine C_ret ?_
 try simp only [↓inBlock_ret, ↓then_ret]
 exact retQ rfl (Res.two Tryz.results32 rfl rfl) ⟨v61, rfl, (Sl.out (Dw := Dw) h62 hA0 hK), hK.kp⟩

set_option maxRecDepth 4000 in
set_option maxHeartbeats 4000000 in
theorem staff_natOf_c (w : World) {A : Nat → Prop} (hA : ∀ b, w.heap.size ≤ b → A b) (n : Int) {r : (List Int)} (hm : staff_natOf n = some r) : Ret Tryz.prog 33 #[.int .i64 n] w fun v w' => ∃ s0, v = s0 ∧ Ownd 3 w w' s0 r ∧ Kp Dw w w' := by
 unfold staff_natOf at hm
 refine enter Tryz.func33 rfl Tryz.ntmps33 rfl ?_
 have hA0 := hA
 have hB := Nat.le_refl w.heap.size
 have hK : Tr Dw w.heap.size A w A w := Tr.refl (Dw := Dw) hA
 have hH : Hp w.heap.size A w [] := Hp.nil
 refine C_seq ?_
 refine C_region ?_
 refine V_as rfl rfl ?_
 refine V_to (fun _ _ => rfl) ?_
 refine C_seq ?_
 refine C_region ?_
 refine V_as rfl rfl ?_
 refine V_to (fun _ _ => rfl) ?_
 refine C_seq ?_
 replace hH : Hp w.heap.size A w (obS (α := Int) 3 (.slice none 0 0) ([] : (List Int)) :: []) := Hp.addNil (α := Int) (e := 3) hH
 obtain ⟨o1, ho1, hm⟩ := Option.bind_eq_some_iff.1 hm
 refine C_cutG (ι := ((Int × (List Int)) × Value × (Nat → Prop))) (fun ⟨s2, v8, A10⟩ => [(3, v8)]) (fun ⟨s2, v8, A10⟩ => fun w' => o1 = .fin s2 ∧ Hp w.heap.size A10 w' (obS (α := Int) 3 v8 s2.2 :: []) ∧ Tr Dw w.heap.size A w A10 w') ?_ ?_
 ·refine C_block ?_
  refine C_while ho1 (fun s12 a w' => ∃ i : (Value × (Nat → Prop)), Has ⟨14, [], none⟩ a ([(0, .int .i64 s12.1), (3, i.1)]) ∧ Hp w.heap.size i.2 w' (obS (α := Int) 3 i.1 s12.2 :: []) ∧ Tr Dw w.heap.size A w i.2 w') (fun a ha => ⟨(.slice none 0 0, A), ha.sub ⟨rfl, rfl, trivial⟩, ⟨hH, Tr.refl (Dw := Dw) hA⟩⟩) ?_
  rintro K s12 a w13 ⟨⟨v14, A16⟩, ha40, hH17, hr3⟩ K24
  refine C_of ?_ ha40
  replace hB := Nat.le_trans hB hr3.ex.size
  replace hA := hr3.new
  replace hH : Hp w.heap.size A16 w13 (obS (α := Int) 3 v14 s12.2 :: []) := hH17
  obtain ⟨x18, h19, h20⟩ := K24
  refine C_seq ?_
  refine C_seq ?_
  refine C_region ?_
  refine V_mv rfl rfl ?_
  refine V_y (Y_gtr rfl rfl) rfl rfl rfl ?_
  refine V_to (fun _ _ => rfl) ?_
  refine C_cond rfl (fun hc25 => ?_) (fun hc25 => ?_)
  ·rw [if_pos hc25] at h19
   refine C_skip_to (fun _ _ => rfl) ?_
   refine C_block ?_
   refine C_seq ?_
   refine C_region ?_
   refine V_mv rfl rfl ?_
   refine V_mv rfl rfl ?_
   refine V_y (Y_rem (by rw [rem, if_neg (by decide)]) rfl rfl) rfl rfl rfl ?_
   refine V_buildSlice (Dw := Dw) (cells := #[.int .i64 (Int.tmod s12.1 1000000000)]) (l := ([Int.tmod s12.1 1000000000] : List Int)) (len := 1) Tryz.underlying33 Tryz.sizeOf3 Tryz.zeroValue3 rfl (by generalize (Int.tmod s12.1 1000000000 : Int) = z30; kernel_rfl) (show (1 * 1 : Nat) ≠ 0 by decide) (show (1 * 1 : Nat) ≤ 2 ^ 24 by decide) hA ⟨[.int .i64 (Int.tmod s12.1 1000000000)], _, rfl, rfl, rfl⟩ rfl rfl ?_
   intro v26 w27 hk29 h28
   have ht31 := Kp.tr hk29 hA hB
   replace hH := Hp.kp hH hk29
   replace hr3 := Tr.trans hr3 ht31
   replace hB := Nat.le_trans hB ht31.ex.size
   replace hA := ht31.new
   obtain ⟨x32, hx32, h19⟩ := Option.bind_eq_some_iff.1 h19
   refine V_appendH (Dw := Dw) (e := 3) (v := v14) (l := s12.2) (ti := Tryz.t3) (bytes := 8) (lim := 17592186044416) hH (i := 0) rfl h28 hx32 Tryz.underlying33 Tryz_info3 rfl rfl rfl rfl (by decide) (by decide) (by decide) hB hA rfl rfl rfl ?_
   intro v33 w34 A35 hH36 ht37
   replace hr3 := Tr.trans hr3 ht37
   replace hH : Hp w.heap.size A35 w34 (obS (α := Int) 3 v33 x32 :: []) := hH36
   refine V_as rfl rfl ?_
   refine V_to (fun _ _ => rfl) ?_
   refine C_region ?_
   refine V_mv rfl rfl ?_
   refine V_y (Y_quo (by rw [quo, if_neg (by decide)]) rfl rfl) rfl rfl rfl ?_
   refine V_as rfl rfl ?_
   obtain rfl := Option.some.inj h19
   refine V_end (fun a ha38 => ?_)
   exact ⟨(w64 (Int.tdiv s12.1 1000000000), x32), h20, ⟨(v33, A35), ha38.sub ⟨rfl, rfl, trivial⟩, ⟨hH, hr3⟩⟩⟩
  ·rw [if_neg (nt hc25)] at h19
   obtain rfl := Option.some.inj h19
   refine C_exit (fun a ha39 => ?_)
   exact ⟨((s12.1, s12.2), v14, A16), ha39.sub ⟨rfl, trivial⟩, ⟨h20.symm, hH, hr3⟩⟩
 rintro ⟨s2, v8, A10⟩ w5 ⟨rfl, hH11, hk6⟩ a ha7
 rw [Lp.andThen_fin] at hm
 replace hK := Tr.trans hK hk6
 replace hA := hk6.new
 replace hH : Hp w.heap.size A10 w5 (obS (α := Int) 3 v8 s2.2 :: []) := hH11
 refine C_at (n := ⟨14, [], none⟩) (fun _ _ => rfl) ?_ ha7
 refine C_seq ?_
 refine C_region ?_
 refine V_mv rfl rfl ?_
 refine V_as rfl rfl ?_
 refine V_to (fun _ _ => rfl) ?_
 obtain rfl := Option.some.inj hm
 refine C_ret ?_
 try simp only [↓inBlock_ret, ↓then_ret]
 exact retQ rfl (Res.one Tryz.results33 rfl) ⟨v8, rfl, (Hp.ownd hH (i := 0) rfl), hK.kp⟩

set_option maxRecDepth 4000 in
set_option maxHeartbeats 4000000 in
theorem staff_nat_small_c (w : World) {A : Nat → Prop} (hA : ∀ b, w.heap.size ≤ b → A b) (a_ : (List Int)) (v_a_ : Value) (h_a_ : Sl A w v_a_ a_) (n : Int) {r : (List Int)} (hm : staff_nat_small a_ n = some r) : Ret Tryz.prog 34 #[v_a_, .int .i64 n] w fun v w' => ∃ s0, v = s0 ∧ Sl A w' s0 r ∧ Kp Dw w w' := by
 unfold staff_nat_small at hm
 refine enter Tryz.func34 rfl Tryz.ntmps34 rfl ?_
 have hA0 := hA
 have hB := Nat.le_refl w.heap.size
 have hK : Tr Dw w.heap.size A w A w := Tr.refl (Dw := Dw) hA
 have hH : Hp w.heap.size A w [] := Hp.nil
 refine C_seq ?_
 refine C_region ?_
 refine V_as rfl rfl ?_
 refine V_to (fun _ _ => rfl) ?_
 refine C_seq ?_
 refine C_region ?_
 refine V_mv rfl rfl ?_
 refine V_y (Y_lenSl h_a_ rfl Tryz.underlying33 rfl) rfl rfl rfl ?_
 refine V_y (Y_addI rfl rfl) rfl rfl rfl ?_
 obtain ⟨x3, hx3, hm⟩ := Option.bind_eq_some_iff.1 hm
 refine V_makeH (Dw := Dw) (e := 3) (ti := Tryz.t3) hH hx3 (fun _ _ => rfl) Tryz.underlying33 Tryz_info3 rfl rfl rfl (by decide) (by decide) hB hA rfl rfl rfl ?_
 intro v4 w5 A6 hH7 ht8
 replace h_a_ := Sl.tr h_a_ ht8
 replace hK := Tr.trans hK ht8
 replace hB := Nat.le_trans hB ht8.ex.size
 replace hA := ht8.new
 replace hH : Hp w.heap.size A6 w5 (obS (α := Int) 3 v4 x3 :: []) := hH7
 refine V_as rfl rfl ?_
 refine V_to (fun _ _ => rfl) ?_
 refine C_seq ?_
 refine C_region ?_
 refine V_as rfl rfl ?_
 refine V_to (fun _ _ => rfl) ?_
 refine C_seq ?_
 refine C_seq ?_
 refine C_region ?_
 refine V_mv rfl rfl ?_
 refine V_y (Y_lenSl h_a_ rfl Tryz.underlying33 rfl) rfl rfl rfl ?_
 refine V_mv rfl rfl ?_
 refine V_to (fun _ _ => rfl) ?_
 have hn33 := Sl.le h_a_
 obtain ⟨o9, ho9, hm⟩ := Option.bind_eq_some_iff.1 hm
 refine C_cutG (ι := (((List Int) × Int) × Value × (Nat → Prop))) (fun ⟨s10, v16, A18⟩ => [(0, v_a_), (5, v16), (6, .int .i64 s10.2)]) (fun ⟨s10, v16, A18⟩ => fun w' => o9 = .fin s10 ∧ Hp w.heap.size A18 w' (obS (α := Int) 3 v16 s10.1 :: []) ∧ Tr Dw w.heap.size A6 w5 A18 w') ?_ ?_
 ·refine C_block ?_
  refine C_range ho9 (fun k12 s20 a w' => ∃ i : (Value × (Nat → Prop)), Has ⟨41, [], none⟩ a ([(0, v_a_), (1, .int .i64 n), (5, i.1), (6, .int .i64 s20.2), (14, v_a_), (15, .int .i64 (a_.length : Int)), (16, .int .i64 (k12 : Int))]) ∧ Hp w.heap.size i.2 w' (obS (α := Int) 3 i.1 s20.1 :: []) ∧ Tr Dw w.heap.size A6 w5 i.2 w') (fun a ha => ⟨(v4, A6), ha.sub ⟨rfl, rfl, rfl, rfl, rfl, rfl, rfl, trivial⟩, ⟨hH, Tr.refl (Dw := Dw) hA⟩⟩) ?_
  rintro K k12 s20 a w21 ⟨⟨v22, A24⟩, ha50, hH25, hr11⟩ hle29 K32 h31
  refine C_of ?_ ha50
  replace h_a_ := Sl.tr h_a_ hr11
  replace hB := Nat.le_trans hB hr11.ex.size
  replace hA := hr11.new
  replace hH : Hp w.heap.size A24 w21 (obS (α := Int) 3 v22 s20.1 :: []) := hH25
  refine C_seq (C_region (V_y (Y_lss rfl rfl) rfl rfl rfl (V_to (fun _ _ => rfl) ?_)))
  refine C_seq ?_
  refine C_cond rfl (fun hc34 => ?_) (fun hc34 => ?_)
  ·have hlt30 := lt_of_dec hc34
   obtain ⟨x26, h27, h28⟩ := K32 hlt30
   refine C_skip_to (fun _ _ => rfl) ?_
   refine C_seq ?_
   refine C_block ?_
   refine C_seq ?_
   refine C_region ?_
   refine V_mv rfl rfl ?_
   obtain ⟨x35, hx35, h27⟩ := Option.bind_eq_some_iff.1 h27
   refine V_indexAddr h_a_ hx35 Tryz.underlying33 Tryz.sizeOf3 rfl rfl rfl ?_
   intro b36 o37 h38
   refine V_y (Y_load (El.int h38) Tryz.isAgg3 rfl) rfl rfl rfl ?_
   refine V_as rfl rfl ?_
   refine V_as rfl rfl ?_
   refine V_to (fun _ _ => rfl) ?_
   refine C_seq ?_
   refine C_region ?_
   refine V_mv rfl rfl ?_
   refine V_mv rfl rfl ?_
   refine V_y (Y_mulI rfl rfl) rfl rfl rfl ?_
   refine V_mv rfl rfl ?_
   refine V_y (Y_addI rfl rfl) rfl rfl rfl ?_
   refine V_as rfl rfl ?_
   refine V_to (fun _ _ => rfl) ?_
   refine C_region ?_
   refine V_mv rfl rfl ?_
   refine V_mv rfl rfl ?_
   refine V_mv rfl rfl ?_
   refine V_y (Y_rem (by rw [rem, if_neg (by decide)]) rfl rfl) rfl rfl rfl ?_
   refine V_mv rfl rfl ?_
   refine V_y (Y_quo (by rw [quo, if_neg (by decide)]) rfl rfl) rfl rfl rfl ?_
   obtain ⟨x39, hx39, h27⟩ := Option.bind_eq_some_iff.1 h27
   refine V_indexAddrH (α := Int) (e := 3) (v := v22) (l := s20.1) hH (i := 0) rfl hx39 Tryz.underlying33 Tryz.sizeOf3 rfl rfl rfl ?_
   intro b40 o41 h42 hl43
   obtain ⟨x44, hx44, h27⟩ := Option.bind_eq_some_iff.1 h27
   refine V_storeH (Dw := Dw) (α := Int) (e := 3) (v := v22) (l := s20.1) hH (i := 0) rfl hl43 hx44 rfl Tryz.sizeOf3 rfl hB hA rfl rfl ?_
   intro w45 hH46 ht47
   replace hr11 := Tr.trans hr11 ht47
   replace hH : Hp w.heap.size A24 w45 (obS (α := Int) 3 v22 x44 :: []) := hH46
   refine V_as rfl rfl ?_
   refine V_to (fun _ _ => rfl) ?_
   refine C_region ?_
   refine V_y (Y_addI rfl rfl) rfl rfl rfl ?_
   refine V_mv rfl rfl ?_
   obtain rfl := Option.some.inj h27
   refine V_end (fun a ha48 => ?_)
   exact ⟨(x44, w64 (Int.tdiv (w64 ((w64 (x35 * n)) + s20.2)) 1000000000)), hlt30, h28, ⟨(v22, A24), ha48.sub ⟨rfl, rfl, rfl, rfl, rfl, rfl, (congrArg (fun z => some (Value.int .i64 z)) (w64_succ hlt30 hn33)), trivial⟩, ⟨hH, hr11⟩⟩⟩
  ·refine C_exit (fun a ha49 => ?_)
   exact ⟨((s20.1, s20.2), v22, A24), ha49.sub ⟨rfl, rfl, rfl, trivial⟩, ⟨(h31 (eq_of_dec hle29 hc34)).symm, hH, hr11⟩⟩
 rintro ⟨s10, v16, A18⟩ w13 ⟨rfl, hH19, hk14⟩ a ha15
 rw [Lp.andThen_fin] at hm
 replace h_a_ := Sl.tr h_a_ hk14
 replace hK := Tr.trans hK hk14
 replace hB := Nat.le_trans hB hk14.ex.size
 replace hA := hk14.new
 replace hH : Hp w.heap.size A18 w13 (obS (α := Int) 3 v16 s10.1 :: []) := hH19
 refine C_at (n := ⟨41, [], none⟩) (fun _ _ => rfl) ?_ ha15
 refine C_seq ?_
 refine C_region ?_
 refine V_mv rfl rfl ?_
 refine V_mv rfl rfl ?_
 refine V_y (Y_lenSl h_a_ rfl Tryz.underlying33 rfl) rfl rfl rfl ?_
 refine V_mv rfl rfl ?_
 obtain ⟨x51, hx51, hm⟩ := Option.bind_eq_some_iff.1 hm
 refine V_indexAddrH (α := Int) (e := 3) (v := v16) (l := s10.1) hH (i := 0) rfl hx51 Tryz.underlying33 Tryz.sizeOf3 rfl rfl rfl ?_
 intro b52 o53 h54 hl55
 obtain ⟨x56, hx56, hm⟩ := Option.bind_eq_some_iff.1 hm
 refine V_storeH (Dw := Dw) (α := Int) (e := 3) (v := v16) (l := s10.1) hH (i := 0) rfl hl55 hx56 rfl Tryz.sizeOf3 rfl hB hA rfl rfl ?_
 intro w57 hH58 ht59
 replace hK := Tr.trans hK ht59
 replace hA := ht59.new
 replace hH : Hp w.heap.size A18 w57 (obS (α := Int) 3 v16 x56 :: []) := hH58
 refine V_to (fun _ _ => rfl) ?_
 refine C_seq ?_
 refine C_region ?_
 refine V_mv rfl rfl ?_
 obtain ⟨A60, ht61, h62, hH63⟩ := Hp.freeze (Dw := Dw) (α := Int) (v := v16) (l := x56) hH (i := 0) rfl hA
 replace hK := Tr.trans hK ht61
 replace hH : Hp w.heap.size A60 w57 ([]) := hH63
 obtain ⟨x65, hx65, hm⟩ := Option.bind_eq_some_iff.1 hm
 refine V_call Tryz.call37 rfl rfl rfl rfl (staff_nat_trimmed_c w57 x56 v16 h62 hx65) ?_
 rintro v66 _ ⟨_, rfl, h67, rfl⟩
 refine V_as rfl rfl ?_
 refine V_to (fun _ _ => rfl) ?_
 obtain rfl := Option.some.inj hm
 refine C_ret ?_
 try simp only [↓inBlock_ret, ↓then_ret]
 exact retQ rfl (Res.one Tryz.results34 rfl) ⟨v66, rfl, (Sl.out (Dw := Dw) h67 hA0 hK), hK.kp⟩

set_option maxRecDepth 4000 in
set_option maxHeartbeats 4000000 in
theorem staff_takeAway_c (w : World) {A : Nat → Prop} {B : Nat} (hB : B ≤ w.heap.size) (hA : ∀ b, w.heap.size ≤ b → A b) (r_ : List Int) (v_r_ : Value) {p_r_ : List Int} {q_r_ : List Value} (d : (List Int)) (v_d : Value) (h_d : Sl A w v_d d) (times : Int) {L : List Ob} (hH : Hp B A w (obW p_r_ q_r_ v_r_ 3 v_r_ r_ :: L)) {r : (Bool × (List Int))} (hm : staff_takeAway r_ d times = some r) : Ret Tryz.prog 35 #[v_r_, v_d, .int .i64 times] w fun v w' => ∃ u_r_, ∃ A1 : Nat → Prop, v = .bool r.1 ∧ Hp B A1 w' (obW p_r_ q_r_ v_r_ 3 u_r_ r.2 :: L) ∧ Tr Dw B A w A1 w' := by
 unfold staff_takeAway at hm
 refine enter Tryz.func35 rfl Tryz.ntmps35 rfl ?_
 have hK : Tr Dw B A w A w := Tr.refl (Dw := Dw) hA
 refine C_seq ?_
 refine C_region ?_
 refine V_as rfl rfl ?_
 refine V_to (fun _ _ => rfl) ?_
 refine C_seq ?_
 refine C_region ?_
 refine V_as rfl rfl ?_
 refine V_to (fun _ _ => rfl) ?_
 refine C_seq ?_
 refine C_seq ?_
 refine C_region ?_
 refine V_mv rfl rfl ?_
 refine V_y (Y_lenSl h_d rfl Tryz.underlying33 rfl) rfl rfl rfl ?_
 refine V_mv rfl rfl ?_
 refine V_to (fun _ _ => rfl) ?_
 have hn27 := Sl.le h_d
 obtain ⟨o3, ho3, hm⟩ := Option.bind_eq_some_iff.1 hm
 refine C_cutG (ι := (((List Int) × Int) × Value × (Nat → Prop))) (fun ⟨s4, v10, A12⟩ => [(0, v10), (1, v_d), (7, .int .i64 s4.2)]) (fun ⟨s4, v10, A12⟩ => fun w' => o3 = .fin s4 ∧ Hp B A12 w' (obW p_r_ q_r_ v_r_ 3 v10 s4.1 :: L) ∧ Tr Dw B A w A12 w') ?_ ?_
 ·refine C_block ?_
  refine C_range ho3 (fun k6 s14 a w' => ∃ i : (Value × (Nat → Prop)), Has ⟨67, [], none⟩ a ([(0, i.1), (1, v_d), (2, .int .i64 times), (7, .int .i64 s14.2), (11, .int .i64 (d.length : Int)), (12, .int .i64 (k6 : Int))]) ∧ Hp B i.2 w' (obW p_r_ q_r_ v_r_ 3 i.1 s14.1 :: L) ∧ Tr Dw B A w i.2 w') (fun a ha => ⟨(v_r_, A), ha.sub ⟨rfl, rfl, rfl, rfl, rfl, rfl, trivial⟩, ⟨hH, Tr.refl (Dw := Dw) hA⟩⟩) ?_
  rintro K k6 s14 a w15 ⟨⟨v16, A18⟩, ha72, hH19, hr5⟩ hle23 K26 h25
  refine C_of ?_ ha72
  replace h_d := Sl.tr h_d hr5
  replace hB := Nat.le_trans hB hr5.ex.size
  replace hA := hr5.new
  replace hH : Hp B A18 w15 (obW p_r_ q_r_ v_r_ 3 v16 s14.1 :: L) := hH19
  refine C_seq (C_region (V_y (Y_lss rfl rfl) rfl rfl rfl (V_to (fun _ _ => rfl) ?_)))
  refine C_seq ?_
  refine C_cond rfl (fun hc28 => ?_) (fun hc28 => ?_)
  ·have hlt24 := lt_of_dec hc28
   obtain ⟨x20, h21, h22⟩ := K26 hlt24
   refine C_skip_to (fun _ _ => rfl) ?_
   refine C_seq ?_
   refine C_block ?_
   refine C_seq ?_
   refine C_region ?_
   refine V_mv rfl rfl ?_
   refine V_as rfl rfl ?_
   refine V_to (fun _ _ => rfl) ?_
   refine C_seq ?_
   refine C_region_q (Dw := Dw) Tryz_mixed (by kernel_rfl) ?_
   refine VQ_y (fun w' hw' => Y_move rfl) rfl rfl rfl ?_
   refine VQ_y (fun w' hw' => Y_move rfl) rfl rfl rfl ?_
   obtain ⟨x29, hx29, h21⟩ := Option.bind_eq_some_iff.1 h21
   refine VQ_indexAddrW (e := 3) (v := v16) (l := s14.1) hH (i := 0) rfl hx29 Tryz.underlying33 Tryz.sizeOf3 rfl rfl rfl ?_
   intro b30 o31 h32 hl33
   refine VQ_y (fun w' hw' => Y_load (El.int (El.kp (Dw := Dw) h32 hw')) Tryz.isAgg3 rfl) rfl rfl rfl ?_
   refine VQ_y (fun w' hw' => Y_move rfl) rfl rfl rfl ?_
   refine VQ_y (fun w' hw' => Y_move rfl) rfl rfl rfl ?_
   obtain ⟨x34, hx34, h21⟩ := Option.bind_eq_some_iff.1 h21
   refine VQ_indexAddr h_d hx34 Tryz.underlying33 Tryz.sizeOf3 rfl rfl rfl ?_
   intro b35 o36 h37
   refine VQ_y (fun w' hw' => Y_load (El.int (El.kp (Dw := Dw) h37 hw')) Tryz.isAgg3 rfl) rfl rfl rfl ?_
   refine VQ_y (fun w' hw' => Y_move rfl) rfl rfl rfl ?_
   refine VQ_y (fun w' hw' => Y_mulI rfl rfl) rfl rfl rfl ?_
   refine VQ_y (fun w' hw' => Y_rem (by rw [rem, if_neg (by decide)]) rfl rfl) rfl rfl rfl ?_
   refine VQ_y (fun w' hw' => Y_subI rfl rfl) rfl rfl rfl ?_
   refine VQ_y (fun w' hw' => Y_move rfl) rfl rfl rfl ?_
   refine VQ_y (fun w' hw' => Y_subI rfl rfl) rfl rfl rfl ?_
   refine VQ_y (fun w' hw' => Y_assign rfl) rfl rfl rfl ?_
   refine VQ_to (fun _ _ => rfl) (fun w38 hk39 => ?_)
   have ht40 := Kp.tr hk39 hA hB
   replace hH := Hp.kp hH hk39
   replace h_d := Sl.tr h_d ht40
   replace hr5 := Tr.trans hr5 ht40
   replace hB := Nat.le_trans hB ht40.ex.size
   replace hA := ht40.new
   refine C_seq ?_
   refine C_region ?_
   refine V_mv rfl rfl ?_
   refine V_mv rfl rfl ?_
   refine V_indexAddr h_d hx34 Tryz.underlying33 Tryz.sizeOf3 rfl rfl rfl ?_
   intro b41 o42 h43
   refine V_y (Y_load (El.int h43) Tryz.isAgg3 rfl) rfl rfl rfl ?_
   refine V_mv rfl rfl ?_
   refine V_y (Y_mulI rfl rfl) rfl rfl rfl ?_
   refine V_y (Y_quo (by rw [quo, if_neg (by decide)]) rfl rfl) rfl rfl rfl ?_
   refine V_as rfl rfl ?_
   refine V_to (fun _ _ => rfl) ?_
   refine C_seq ?_
   refine C_seq ?_
   refine C_region ?_
   refine V_mv rfl rfl ?_
   refine V_y (Y_lss rfl rfl) rfl rfl rfl ?_
   refine V_to (fun _ _ => rfl) ?_
   obtain ⟨s45, ho44, h21⟩ := Option.bind_eq_some_iff.1 h21
   refine C_cutG (ι := Unit) (fun (_ : Unit) => [(0, v16), (1, v_d), (2, .int .i64 times), (7, .int .i64 s45.1), (8, .int .i64 (k6 : Int)), (9, .int .i64 s45.2), (11, .int .i64 (d.length : Int)), (12, .int .i64 (k6 : Int))]) (fun (_ : Unit) => fun w' => w38 = w') ?_ ?_
   ·refine C_cond rfl (fun hc50 => ?_) (fun hc50 => ?_)
    ·rw [if_pos hc50] at ho44
     refine C_seq ?_
     refine C_region ?_
     refine V_mv rfl rfl ?_
     refine V_y (Y_addI rfl rfl) rfl rfl rfl ?_
     refine V_as rfl rfl ?_
     refine V_to (fun _ _ => rfl) ?_
     refine C_seq ?_
     refine C_region ?_
     refine V_mv rfl rfl ?_
     refine V_y (Y_addI rfl rfl) rfl rfl rfl ?_
     refine V_as rfl rfl ?_
     refine V_to (fun _ _ => rfl) ?_
     refine C_seq ?_
     refine C_region ?_
     refine V_mv rfl rfl ?_
     refine V_y (Y_lss rfl rfl) rfl rfl rfl ?_
     refine V_to (fun _ _ => rfl) ?_
     obtain ⟨s52, ho51, ho44⟩ := Option.bind_eq_some_iff.1 ho44
     refine C_cutG (ι := Unit) (fun (_ : Unit) => [(0, v16), (1, v_d), (2, .int .i64 times), (7, .int .i64 s52.1), (8, .int .i64 (k6 : Int)), (9, .int .i64 s52.2), (11, .int .i64 (d.length : Int)), (12, .int .i64 (k6 : Int))]) (fun (_ : Unit) => fun w' => w38 = w') ?_ ?_
     ·refine C_cond rfl (fun hc57 => ?_) (fun hc57 => ?_)
      ·rw [if_pos hc57] at ho51
       refine C_seq ?_
       refine C_region ?_
       refine V_mv rfl rfl ?_
       refine V_y (Y_addI rfl rfl) rfl rfl rfl ?_
       refine V_as rfl rfl ?_
       refine V_to (fun _ _ => rfl) ?_
       refine C_region ?_
       refine V_mv rfl rfl ?_
       refine V_y (Y_addI rfl rfl) rfl rfl rfl ?_
       refine V_as rfl rfl ?_
       obtain rfl := Option.some.inj ho51
       refine V_end (fun a ha58 => ?_)
       exact ⟨(), ha58.sub ⟨rfl, rfl, rfl, rfl, rfl, rfl, rfl, rfl, trivial⟩, rfl⟩
      ·rw [if_neg (nt hc57)] at ho51
       obtain rfl := Option.some.inj ho51
       refine C_skip (fun a ha59 => ?_)
       exact ⟨(), ha59.sub ⟨rfl, rfl, rfl, rfl, rfl, rfl, rfl, rfl, trivial⟩, rfl⟩
     rintro _ _ rfl a ha56
     obtain rfl := Option.some.inj ho44
     exact ⟨(), ha56.sub ⟨rfl, rfl, rfl, rfl, rfl, rfl, rfl, rfl, trivial⟩, rfl⟩
    ·rw [if_neg (nt hc50)] at ho44
     obtain rfl := Option.some.inj ho44
     refine C_skip (fun a ha61 => ?_)
     exact ⟨(), ha61.sub ⟨rfl, rfl, rfl, rfl, rfl, rfl, rfl, rfl, trivial⟩, rfl⟩
   rintro _ _ rfl a ha49
   refine C_at (n := ⟨67, [], none⟩) (fun _ _ => rfl) ?_ ha49
   refine C_region ?_
   refine V_mv rfl rfl ?_
   refine V_mv rfl rfl ?_
   refine V_mv rfl rfl ?_
   refine V_indexAddrW (e := 3) (v := v16) (l := s14.1) hH (i := 0) rfl hx29 Tryz.underlying33 Tryz.sizeOf3 rfl rfl rfl ?_
   intro b62 o63 h64 hl65
   obtain ⟨x66, hx66, h21⟩ := Option.bind_eq_some_iff.1 h21
   refine V_storeW (Dw := Dw) (e := 3) (v := v16) (l := s14.1) hH (i := 0) rfl hl65 hx66 rfl Tryz.sizeOf3 rfl hB hA rfl rfl ?_
   intro w67 hH68 ht69
   replace hr5 := Tr.trans hr5 ht69
   replace hH : Hp B A18 w67 (obW p_r_ q_r_ v_r_ 3 v16 x66 :: L) := hH68
   refine V_to (fun _ _ => rfl) ?_
   refine C_region ?_
   refine V_y (Y_addI rfl rfl) rfl rfl rfl ?_
   refine V_mv rfl rfl ?_
   obtain rfl := Option.some.inj h21
   refine V_end (fun a ha70 => ?_)
   exact ⟨(x66, s45.1), hlt24, h22, ⟨(v16, A18), ha70.sub ⟨rfl, rfl, rfl, rfl, rfl, (congrArg (fun z => some (Value.int .i64 z)) (w64_succ hlt24 hn27)), trivial⟩, ⟨hH, hr5⟩⟩⟩
  ·refine C_exit (fun a ha71 => ?_)
   exact ⟨((s14.1, s14.2), v16, A18), ha71.sub ⟨rfl, rfl, rfl, trivial⟩, ⟨(h25 (eq_of_dec hle23 hc28)).symm, hH, hr5⟩⟩
 rintro ⟨s4, v10, A12⟩ w7 ⟨rfl, hH13, hk8⟩ a ha9
 rw [Lp.andThen_fin] at hm
 replace h_d := Sl.tr h_d hk8
 replace hK := Tr.trans hK hk8
 replace hB := Nat.le_trans hB hk8.ex.size
 replace hA := hk8.new
 replace hH : Hp B A12 w7 (obW p_r_ q_r_ v_r_ 3 v10 s4.1 :: L) := hH13
 refine C_at (n := ⟨67, [], none⟩) (fun _ _ => rfl) ?_ ha9
 refine C_seq ?_
 refine C_region ?_
 refine V_mv rfl rfl ?_
 refine V_mv rfl rfl ?_
 refine V_y (Y_lenSl h_d rfl Tryz.underlying33 rfl) rfl rfl rfl ?_
 obtain ⟨x73, hx73, hm⟩ := Option.bind_eq_some_iff.1 hm
 refine V_indexAddrW (e := 3) (v := v10) (l := s4.1) hH (i := 0) rfl hx73 Tryz.underlying33 Tryz.sizeOf3 rfl rfl rfl ?_
 intro b74 o75 h76 hl77
 refine V_y (Y_load (El.int h76) Tryz.isAgg3 rfl) rfl rfl rfl ?_
 refine V_mv rfl rfl ?_
 refine V_y (Y_subI rfl rfl) rfl rfl rfl ?_
 refine V_indexAddrW (e := 3) (v := v10) (l := s4.1) hH (i := 0) rfl hx73 Tryz.underlying33 Tryz.sizeOf3 rfl rfl rfl ?_
 intro b78 o79 h80 hl81
 obtain ⟨x82, hx82, hm⟩ := Option.bind_eq_some_iff.1 hm
 refine V_storeW (Dw := Dw) (e := 3) (v := v10) (l := s4.1) hH (i := 0) rfl hl81 hx82 rfl Tryz.sizeOf3 rfl hB hA rfl rfl ?_
 intro w83 hH84 ht85
 replace h_d := Sl.tr h_d ht85
 replace hK := Tr.trans hK ht85
 replace hH : Hp B A12 w83 (obW p_r_ q_r_ v_r_ 3 v10 x82 :: L) := hH84
 refine V_to (fun _ _ => rfl) ?_
 refine C_seq ?_
 refine C_region ?_
 refine V_mv rfl rfl ?_
 refine V_mv rfl rfl ?_
 refine V_y (Y_lenSl h_d rfl Tryz.underlying33 rfl) rfl rfl rfl ?_
 obtain ⟨x86, hx86, hm⟩ := Option.bind_eq_some_iff.1 hm
 refine V_indexAddrW (e := 3) (v := v10) (l := x82) hH (i := 0) rfl hx86 Tryz.underlying33 Tryz.sizeOf3 rfl rfl rfl ?_
 intro b87 o88 h89 hl90
 refine V_y (Y_load (El.int h89) Tryz.isAgg3 rfl) rfl rfl rfl ?_
 refine V_y (Y_lss rfl rfl) rfl rfl rfl ?_
 refine V_as rfl rfl ?_
 refine V_to (fun _ _ => rfl) ?_
 obtain rfl := Option.some.inj hm
 refine C_ret ?_
 try simp only [↓inBlock_ret, ↓then_ret]
 exact retQ rfl (Res.one Tryz.results35 rfl) ⟨v10, A12, rfl, hH, hK⟩

set_option maxRecDepth 4000 in
set_option maxHeartbeats 4000000 in
theorem staff_putBack_c (w : World) {A : Nat → Prop} {B : Nat} (hB : B ≤ w.heap.size) (hA : ∀ b, w.heap.size ≤ b → A b) (r_ : List Int) (v_r_ : Value) {p_r_ : List Int} {q_r_ : List Value} (d : (List Int)) (v_d : Value) (h_d : Sl A w v_d d) {L : List Ob} (hH : Hp B A w (obW p_r_ q_r_ v_r_ 3 v_r_ r_ :: L)) {r : (List Int)} (hm : staff_putBack r_ d = some r) : Ret Tryz.prog 36 #[v_r_, v_d] w fun v w' => ∃ u_r_, ∃ A1 : Nat → Prop, v = .tuple #[] ∧ Hp B A1 w' (obW p_r_ q_r_ v_r_ 3 u_r_ r :: L) ∧ Tr Dw B A w A1 w' := by
 unfold staff_putBack at hm
 refine enter Tryz.func36 rfl Tryz.ntmps36 rfl ?_
 have hK : Tr Dw B A w A w := Tr.refl (Dw := Dw) hA
 refine C_seq ?_
 refine C_region ?_
 refine V_as rfl rfl ?_
 refine V_to (fun _ _ => rfl) ?_
 refine C_seq ?_
 refine C_seq ?_
 refine C_region ?_
 refine V_mv rfl rfl ?_
 refine V_y (Y_lenSl h_d rfl Tryz.underlying33 rfl) rfl rfl rfl ?_
 refine V_mv rfl rfl ?_
 refine V_to (fun _ _ => rfl) ?_
 have hn27 := Sl.le h_d
 obtain ⟨o3, ho3, hm⟩ := Option.bind_eq_some_iff.1 hm
 refine C_cutG (ι := (((List Int) × Int) × Value × (Nat → Prop))) (fun ⟨s4, v10, A12⟩ => [(0, v10), (1, v_d), (4, .int .i64 s4.2)]) (fun ⟨s4, v10, A12⟩ => fun w' => o3 = .fin s4 ∧ Hp B A12 w' (obW p_r_ q_r_ v_r_ 3 v10 s4.1 :: L) ∧ Tr Dw B A w A12 w') ?_ ?_
 ·refine C_block ?_
  refine C_range ho3 (fun k6 s14 a w' => ∃ i : (Value × (Nat → Prop)), Has ⟨39, [], none⟩ a ([(0, i.1), (1, v_d), (4, .int .i64 s14.2), (8, .int .i64 (d.length : Int)), (9, .int .i64 (k6 : Int))]) ∧ Hp B i.2 w' (obW p_r_ q_r_ v_r_ 3 i.1 s14.1 :: L) ∧ Tr Dw B A w i.2 w') (fun a ha => ⟨(v_r_, A), ha.sub ⟨rfl, rfl, rfl, rfl, rfl, trivial⟩, ⟨hH, Tr.refl (Dw := Dw) hA⟩⟩) ?_
  rintro K k6 s14 a w15 ⟨⟨v16, A18⟩, ha51, hH19, hr5⟩ hle23 K26 h25
  refine C_of ?_ ha51
  replace h_d := Sl.tr h_d hr5
  replace hB := Nat.le_trans hB hr5.ex.size
  replace hA := hr5.new
  replace hH : Hp B A18 w15 (obW p_r_ q_r_ v_r_ 3 v16 s14.1 :: L) := hH19
  refine C_seq (C_region (V_y (Y_lss rfl rfl) rfl rfl rfl (V_to (fun _ _ => rfl) ?_)))
  refine C_seq ?_
  refine C_cond rfl (fun hc28 => ?_) (fun hc28 => ?_)
  ·have hlt24 := lt_of_dec hc28
   obtain ⟨x20, h21, h22⟩ := K26 hlt24
   refine C_skip_to (fun _ _ => rfl) ?_
   refine C_seq ?_
   refine C_block ?_
   refine C_seq ?_
   refine C_region ?_
   refine V_mv rfl rfl ?_
   refine V_as rfl rfl ?_
   refine V_to (fun _ _ => rfl) ?_
   refine C_seq ?_
   refine C_region_q (Dw := Dw) Tryz_mixed (by kernel_rfl) ?_
   refine VQ_y (fun w' hw' => Y_move rfl) rfl rfl rfl ?_
   refine VQ_y (fun w' hw' => Y_move rfl) rfl rfl rfl ?_
   obtain ⟨x29, hx29, h21⟩ := Option.bind_eq_some_iff.1 h21
   refine VQ_indexAddrW (e := 3) (v := v16) (l := s14.1) hH (i := 0) rfl hx29 Tryz.underlying33 Tryz.sizeOf3 rfl rfl rfl ?_
   intro b30 o31 h32 hl33
   refine VQ_y (fun w' hw' => Y_load (El.int (El.kp (Dw := Dw) h32 hw')) Tryz.isAgg3 rfl) rfl rfl rfl ?_
   refine VQ_y (fun w' hw' => Y_move rfl) rfl rfl rfl ?_
   refine VQ_y (fun w' hw' => Y_move rfl) rfl rfl rfl ?_
   obtain ⟨x34, hx34, h21⟩ := Option.bind_eq_some_iff.1 h21
   refine VQ_indexAddr h_d hx34 Tryz.underlying33 Tryz.sizeOf3 rfl rfl rfl ?_
   intro b35 o36 h37
   refine VQ_y (fun w' hw' => Y_load (El.int (El.kp (Dw := Dw) h37 hw')) Tryz.isAgg3 rfl) rfl rfl rfl ?_
   refine VQ_y (fun w' hw' => Y_addI rfl rfl) rfl rfl rfl ?_
   refine VQ_y (fun w' hw' => Y_move rfl) rfl rfl rfl ?_
   refine VQ_y (fun w' hw' => Y_addI rfl rfl) rfl rfl rfl ?_
   refine VQ_y (fun w' hw' => Y_assign rfl) rfl rfl rfl ?_
   refine VQ_to (fun _ _ => rfl) (fun w38 hk39 => ?_)
   have ht40 := Kp.tr hk39 hA hB
   replace hH := Hp.kp hH hk39
   replace hr5 := Tr.trans hr5 ht40
   replace hB := Nat.le_trans hB ht40.ex.size
   replace hA := ht40.new
   refine C_region ?_
   refine V_mv rfl rfl ?_
   refine V_mv rfl rfl ?_
   refine V_mv rfl rfl ?_
   refine V_y (Y_rem (by rw [rem, if_neg (by decide)]) rfl rfl) rfl rfl rfl ?_
   refine V_mv rfl rfl ?_
   refine V_y (Y_quo (by rw [quo, if_neg (by decide)]) rfl rfl) rfl rfl rfl ?_
   refine V_indexAddrW (e := 3) (v := v16) (l := s14.1) hH (i := 0) rfl hx29 Tryz.underlying33 Tryz.sizeOf3 rfl rfl rfl ?_
   intro b41 o42 h43 hl44
   obtain ⟨x45, hx45, h21⟩ := Option.bind_eq_some_iff.1 h21
   refine V_storeW (Dw := Dw) (e := 3) (v := v16) (l := s14.1) hH (i := 0) rfl hl44 hx45 rfl Tryz.sizeOf3 rfl hB hA rfl rfl ?_
   intro w46 hH47 ht48
   replace hr5 := Tr.trans hr5 ht48
   replace hH : Hp B A18 w46 (obW p_r_ q_r_ v_r_ 3 v16 x45 :: L) := hH47
   refine V_as rfl rfl ?_
   refine V_to (fun _ _ => rfl) ?_
   refine C_region ?_
   refine V_y (Y_addI rfl rfl) rfl rfl rfl ?_
   refine V_mv rfl rfl ?_
   obtain rfl := Option.some.inj h21
   refine V_end (fun a ha49 => ?_)
   exact ⟨(x45, w64 (Int.tdiv (w64 ((w64 (x29 + x34)) + s14.2)) 1000000000)), hlt24, h22, ⟨(v16, A18), ha49.sub ⟨rfl, rfl, rfl, rfl, (congrArg (fun z => some (Value.int .i64 z)) (w64_succ hlt24 hn27)), trivial⟩, ⟨hH, hr5⟩⟩⟩
  ·refine C_exit (fun a ha50 => ?_)
   exact ⟨((s14.1, s14.2), v16, A18), ha50.sub ⟨rfl, rfl, rfl, trivial⟩, ⟨(h25 (eq_of_dec hle23 hc28)).symm, hH, hr5⟩⟩
 rintro ⟨s4, v10, A12⟩ w7 ⟨rfl, hH13, hk8⟩ a ha9
 rw [Lp.andThen_fin] at hm
 replace h_d := Sl.tr h_d hk8
 replace hK := Tr.trans hK hk8
 replace hB := Nat.le_trans hB hk8.ex.size
 replace hA := hk8.new
 replace hH : Hp B A12 w7 (obW p_r_ q_r_ v_r_ 3 v10 s4.1 :: L) := hH13
 refine C_at (n := ⟨39, [], none⟩) (fun _ _ => rfl) ?_ ha9
 refine C_region ?_
 refine V_mv rfl rfl ?_
 refine V_mv rfl rfl ?_
 refine V_y (Y_lenSl h_d rfl Tryz.underlying33 rfl) rfl rfl rfl ?_
 obtain ⟨x52, hx52, hm⟩ := Option.bind_eq_some_iff.1 hm
 refine V_indexAddrW (e := 3) (v := v10) (l := s4.1) hH (i := 0) rfl hx52 Tryz.underlying33 Tryz.sizeOf3 rfl rfl rfl ?_
 intro b53 o54 h55 hl56
 refine V_y (Y_load (El.int h55) Tryz.isAgg3 rfl) rfl rfl rfl ?_
 refine V_mv rfl rfl ?_
 refine V_y (Y_addI rfl rfl) rfl rfl rfl ?_
 refine V_indexAddrW (e := 3) (v := v10) (l := s4.1) hH (i := 0) rfl hx52 Tryz.underlying33 Tryz.sizeOf3 rfl rfl rfl ?_
 intro b57 o58 h59 hl60
 obtain ⟨x61, hx61, hm⟩ := Option.bind_eq_some_iff.1 hm
 refine V_storeW (Dw := Dw) (e := 3) (v := v10) (l := s4.1) hH (i := 0) rfl hl60 hx61 rfl Tryz.sizeOf3 rfl hB hA rfl rfl ?_
 intro w62 hH63 ht64
 replace hK := Tr.trans hK ht64
 replace hH : Hp B A12 w62 (obW p_r_ q_r_ v_r_ 3 v10 x61 :: L) := hH63
 refine V_end (fun a ha65 => ?_)
 obtain rfl := Option.some.inj hm
 try simp only [↓inBlock_ret, ↓then_ret]
 exact normQ (retQ rfl (Res.zero Tryz.results36) ⟨v10, A12, rfl, hH, hK⟩ a ha65)

set_option maxRecDepth 4000 in
set_option maxHeartbeats 4000000 in
theorem staff_nat_by_c (w : World) {A : Nat → Prop} (hA : ∀ b, w.heap.size ≤ b → A b) (a_ : (List Int)) (v_a_ : Value) (h_a_ : Sl A w v_a_ a_) (b : (List Int)) (v_b : Value) (h_b : Sl A w v_b b) {r : ((List Int) × (List Int))} (hm : staff_nat_by a_ b = some r) : Ret Tryz.prog 17 #[v_a_, v_b] w fun v w' => ∃ s0 s1, v = .tuple #[s0, s1] ∧ Sl A w' s0 r.1 ∧ Sl A w' s1 r.2 ∧ Kp Dw w w' := by
 unfold staff_nat_by at hm
 refine enter Tryz.func17 rfl Tryz.ntmps17 rfl ?_
 have hA0 := hA
 have hB := Nat.le_refl w.heap.size
 have hK : Tr Dw w.heap.size A w A w := Tr.refl (Dw := Dw) hA
 have hH : Hp w.heap.size A w [] := Hp.nil
 refine C_seq ?_
 refine C_region ?_
 refine V_as rfl rfl ?_
 refine V_as rfl rfl ?_
 refine V_to (fun _ _ => rfl) ?_
 refine C_seq ?_
 refine C_seq ?_
 refine C_region ?_
 refine V_mv rfl rfl ?_
 refine V_mv rfl rfl ?_
 obtain ⟨x5, hx5, hm⟩ := Option.bind_eq_some_iff.1 hm
 refine V_call Tryz.call27 rfl rfl rfl rfl (staff_nat_compare_c (Dw := Dw) w hA a_ v_a_ h_a_ b v_b h_b hx5) ?_
 rintro _ w6 ⟨rfl, hk7⟩
 have ht8 := Kp.tr hk7 hA hB
 replace hH := Hp.kp hH hk7
 replace h_a_ := Sl.tr h_a_ ht8
 replace h_b := Sl.tr h_b ht8
 replace hK := Tr.trans hK ht8
 replace hB := Nat.le_trans hB ht8.ex.size
 replace hA := ht8.new
 refine V_y (Y_lss rfl rfl) rfl rfl rfl ?_
 refine V_to (fun _ _ => rfl) ?_
 refine C_cond rfl (fun hc9 => ?_) (fun hc9 => ?_)
 ·rw [if_pos hc9] at hm
  refine C_seq ?_
  refine C_region ?_
  refine V_mv rfl rfl ?_
  refine V_as rfl rfl ?_
  refine V_as rfl rfl ?_
  refine V_to (fun _ _ => rfl) ?_
  obtain rfl := Option.some.inj hm
  refine C_ret ?_
  try simp only [↓inBlock_ret, ↓then_ret]
  exact retQ rfl (Res.two Tryz.results17 rfl rfl) ⟨.slice none 0 0, v_a_, rfl, Sl.nil, (Sl.out (Dw := Dw) h_a_ hA0 hK), hK.kp⟩
 ·rw [if_neg (nt hc9)] at hm
  refine C_skip_to (fun _ _ => rfl) ?_
  refine C_seq ?_
  refine C_seq ?_
  refine C_region ?_
  refine V_mv rfl rfl ?_
  refine V_y (Y_lenSl h_b rfl Tryz.underlying33 rfl) rfl rfl rfl ?_
  refine V_y (Y_eql rfl rfl) rfl rfl rfl ?_
  refine V_to (fun _ _ => rfl) ?_
  refine C_cond rfl (fun hc10 => ?_) (fun hc10 => ?_)
  ·rw [if_pos hc10] at hm
   refine C_seq ?_
   refine C_region ?_
   refine V_mv rfl rfl ?_
   refine V_mv rfl rfl ?_
   obtain ⟨x11, hx11, hm⟩ := Option.bind_eq_some_iff.1 hm
   refine V_indexAddr h_b hx11 Tryz.underlying33 Tryz.sizeOf3 rfl rfl rfl ?_
   intro b12 o13 h14
   refine V_y (Y_load (El.int h14) Tryz.isAgg3 rfl) rfl rfl rfl ?_
   obtain ⟨x15, hx15, hm⟩ := Option.bind_eq_some_iff.1 hm
   refine V_call Tryz.call32 rfl rfl rfl rfl (staff_nat_part_c (Dw := Dw) w6 hA a_ v_a_ h_a_ x11 hx15) ?_
   rintro _ w18 ⟨v16, rfl, h17, hk19⟩
   have ht20 := Kp.tr hk19 hA hB
   replace hH := Hp.kp hH hk19
   replace hK := Tr.trans hK ht20
   replace hB := Nat.le_trans hB ht20.ex.size
   replace hA := ht20.new
   refine V_mv rfl rfl ?_
   refine V_y (Y_extract rfl rfl) rfl rfl rfl ?_
   refine V_y (Y_extract rfl rfl) rfl rfl rfl ?_
   refine V_as rfl rfl ?_
   refine V_as rfl rfl ?_
   refine V_to (fun _ _ => rfl) ?_
   refine C_seq ?_
   refine C_region ?_
   refine V_mv rfl rfl ?_
   refine V_mv rfl rfl ?_
   obtain ⟨x21, hx21, hm⟩ := Option.bind_eq_some_iff.1 hm
   refine V_call Tryz.call33 rfl rfl rfl rfl (staff_natOf_c (Dw := Dw) w18 hA x15.2 hx21) ?_
   rintro v22 w24 ⟨_, rfl, h23, hk25⟩
   obtain ⟨A26, ht27, hH28⟩ := Hp.addOwnd (Dw := Dw) hH hB hA hk25 h23
   replace h17 := Sl.tr h17 ht27
   replace hK := Tr.trans hK ht27
   replace hA := ht27.new
   replace hH : Hp w.heap.size A26 w24 (obS (α := Int) 3 v22 x21 :: []) := hH28
   refine V_as rfl rfl ?_
   refine V_as rfl rfl ?_
   refine V_to (fun _ _ => rfl) ?_
   obtain rfl := Option.some.inj hm
   obtain ⟨A29, ht30, h31, hH32⟩ := Hp.freeze (Dw := Dw) (α := Int) (v := v22) (l := x21) hH (i := 0) rfl hA
   replace h17 := Sl.tr h17 ht30
   replace hK := Tr.trans hK ht30
   replace hH : Hp w.heap.size A29 w24 ([]) := hH32
   refine C_ret ?_
   try simp only [↓inBlock_ret, ↓then_ret]
   exact retQ rfl (Res.two Tryz.results17 rfl rfl) ⟨v16, v22, rfl, (Sl.out (Dw := Dw) h17 hA0 hK), (Sl.out (Dw := Dw) h31 hA0 hK), hK.kp⟩
  ·rw [if_neg (nt hc10)] at hm
   refine C_skip_to (fun _ _ => rfl) ?_
   refine C_seq ?_
   refine C_region ?_
   refine V_mv rfl rfl ?_
   refine V_mv rfl rfl ?_
   refine V_y (Y_lenSl h_b rfl Tryz.underlying33 rfl) rfl rfl rfl ?_
   refine V_y (Y_subI rfl rfl) rfl rfl rfl ?_
   obtain ⟨x34, hx34, hm⟩ := Option.bind_eq_some_iff.1 hm
   refine V_indexAddr h_b hx34 Tryz.underlying33 Tryz.sizeOf3 rfl rfl rfl ?_
   intro b35 o36 h37
   refine V_y (Y_load (El.int h37) Tryz.isAgg3 rfl) rfl rfl rfl ?_
   refine V_y (Y_addI rfl rfl) rfl rfl rfl ?_
   obtain ⟨x38, hx38, hm⟩ := Option.bind_eq_some_iff.1 hm
   refine V_y (Y_quo hx38 rfl rfl) rfl rfl rfl ?_
   refine V_as rfl rfl ?_
   refine V_to (fun _ _ => rfl) ?_
   refine C_seq ?_
   refine C_region ?_
   refine V_mv rfl rfl ?_
   refine V_mv rfl rfl ?_
   obtain ⟨x39, hx39, hm⟩ := Option.bind_eq_some_iff.1 hm
   refine V_call Tryz.call34 rfl rfl rfl rfl (staff_nat_small_c (Dw := Dw) w6 hA b v_b h_b x38 hx39) ?_
   rintro v40 w42 ⟨_, rfl, h41, hk43⟩
   have ht44 := Kp.tr hk43 hA hB
   replace hH := Hp.kp hH hk43
   replace h_a_ := Sl.tr h_a_ ht44
   replace hK := Tr.trans hK ht44
   replace hB := Nat.le_trans hB ht44.ex.size
   replace hA := ht44.new
   refine V_as rfl rfl ?_
   refine V_to (fun _ _ => rfl) ?_
   refine C_seq ?_
   refine C_region ?_
   refine V_mv rfl rfl ?_
   refine V_y (Y_lenSl h41 rfl Tryz.underlying33 rfl) rfl rfl rfl ?_
   refine V_as rfl rfl ?_
   refine V_to (fun _ _ => rfl) ?_
   refine C_seq ?_
   refine C_region ?_
   refine V_mv rfl rfl ?_
   refine V_y (Y_lenSl h_a_ rfl Tryz.underlying33 rfl) rfl rfl rfl ?_
   refine V_y (Y_addI rfl rfl) rfl rfl rfl ?_
   obtain ⟨x45, hx45, hm⟩ := Option.bind_eq_some_iff.1 hm
   refine V_makeH (Dw := Dw) (e := 3) (ti := Tryz.t3) hH hx45 (fun _ _ => rfl) Tryz.underlying33 Tryz_info3 rfl rfl rfl (by decide) (by decide) hB hA rfl rfl rfl ?_
   intro v46 w47 A48 hH49 ht50
   replace h_a_ := Sl.tr h_a_ ht50
   replace h41 := Sl.tr h41 ht50
   replace hK := Tr.trans hK ht50
   replace hB := Nat.le_trans hB ht50.ex.size
   replace hA := ht50.new
   replace hH : Hp w.heap.size A48 w47 (obS (α := Int) 3 v46 x45 :: []) := hH49
   refine V_as rfl rfl ?_
   refine V_to (fun _ _ => rfl) ?_
   refine C_seq ?_
   refine C_region ?_
   refine V_mv rfl rfl ?_
   refine V_mv rfl rfl ?_
   refine V_mv rfl rfl ?_
   obtain ⟨x51, hx51, hm⟩ := Option.bind_eq_some_iff.1 hm
   refine V_call Tryz.call34 rfl rfl rfl rfl (staff_nat_small_c (Dw := Dw) w47 hA a_ v_a_ h_a_ x38 hx51) ?_
   rintro v52 w54 ⟨_, rfl, h53, hk55⟩
   have ht56 := Kp.tr hk55 hA hB
   replace hH := Hp.kp hH hk55
   replace h_a_ := Sl.tr h_a_ ht56
   replace h41 := Sl.tr h41 ht56
   replace hK := Tr.trans hK ht56
   replace hB := Nat.le_trans hB ht56.ex.size
   replace hA := ht56.new
   refine V_copyH (Dw := Dw) (α := Int) (e := 3) (v := v46) (l := x45) hH (i := 0) rfl h53 rfl Tryz.underlying33 (by rw [Tryz_info3]; rfl) hB hA rfl rfl rfl ?_
   intro w57 hH58 ht59
   replace h_a_ := Sl.tr h_a_ ht59
   replace h41 := Sl.tr h41 ht59
   replace hK := Tr.trans hK ht59
   replace hB := Nat.le_trans hB ht59.ex.size
   replace hA := ht59.new
   replace hH : Hp w.heap.size A48 w57 (obS (α := Int) 3 v46 (copyL x45 x51) :: []) := hH58
   refine V_to (fun _ _ => rfl) ?_
   refine C_seq ?_
   refine C_region ?_
   refine V_mv rfl rfl ?_
   refine V_y (Y_lenSl h_a_ rfl Tryz.underlying33 rfl) rfl rfl rfl ?_
   refine V_mv rfl rfl ?_
   refine V_y (Y_subI rfl rfl) rfl rfl rfl ?_
   refine V_y (Y_addI rfl rfl) rfl rfl rfl ?_
   obtain ⟨x60, hx60, hm⟩ := Option.bind_eq_some_iff.1 hm
   refine V_makeH (Dw := Dw) (e := 3) (ti := Tryz.t3) hH hx60 (fun _ _ => rfl) Tryz.underlying33 Tryz_info3 rfl rfl rfl (by decide) (by decide) hB hA rfl rfl rfl ?_
   intro v61 w62 A63 hH64 ht65
   replace h41 := Sl.tr h41 ht65
   replace hK := Tr.trans hK ht65
   replace hB := Nat.le_trans hB ht65.ex.size
   replace hA := ht65.new
   replace hH : Hp w.heap.size A63 w62 (obS (α := Int) 3 v61 x60 :: obS (α := Int) 3 v46 (copyL x45 x51) :: []) := hH64
   refine V_as rfl rfl ?_
   refine V_to (fun _ _ => rfl) ?_
   refine C_seq ?_
   refine C_seq ?_
   refine C_region ?_
   refine V_mv rfl rfl ?_
   refine V_y (Y_lenSl (Hp.any (α := Int) (e := 3) (v := v61) (l := x60) hH (i := 0) rfl) rfl Tryz.underlying33 rfl) rfl rfl rfl ?_
   refine V_mv rfl rfl ?_
   refine V_to (fun _ _ => rfl) ?_
   obtain ⟨o66, ho66, hm⟩ := Option.bind_eq_some_iff.1 hm
   refine C_cutG (ι := (((List Int) × (List Int) × Int) × Value × Value × (Nat → Prop))) (fun ⟨s67, v73, v75, A77⟩ => [(8, .int .i64 x38), (11, v73), (12, v75)]) (fun ⟨s67, v73, v75, A77⟩ => fun w' => o66 = .fin s67 ∧ Hp w.heap.size A77 w' (obS (α := Int) 3 v75 s67.2.1 :: obS (α := Int) 3 v73 s67.1 :: []) ∧ Tr Dw w.heap.size A63 w62 A77 w') ?_ ?_
   ·refine C_block ?_
    refine C_while ho66 (fun s79 a w' => ∃ i : (Value × Value × (Nat → Prop)), Has ⟨177, [], none⟩ a ([(8, .int .i64 x38), (9, v40), (10, .int .i64 (x39.length : Int)), (11, i.1), (12, i.2.1), (68, .int .i64 (x60.length : Int)), (69, .int .i64 s79.2.2)]) ∧ Hp w.heap.size i.2.2 w' (obS (α := Int) 3 i.2.1 s79.2.1 :: obS (α := Int) 3 i.1 s79.1 :: []) ∧ Tr Dw w.heap.size A63 w62 i.2.2 w') (fun a ha => ⟨(v46, v61, A63), ha.sub ⟨rfl, rfl, rfl, rfl, rfl, rfl, rfl, trivial⟩, ⟨hH, Tr.refl (Dw := Dw) hA⟩⟩) ?_
    rintro K s79 a w80 ⟨⟨v81, v83, A85⟩, ha211, hH86, hr68⟩ K93
    refine C_of ?_ ha211
    replace h41 := Sl.tr h41 hr68
    replace hB := Nat.le_trans hB hr68.ex.size
    replace hA := hr68.new
    replace hH : Hp w.heap.size A85 w80 (obS (α := Int) 3 v83 s79.2.1 :: obS (α := Int) 3 v81 s79.1 :: []) := hH86
    obtain ⟨x87, h88, h89⟩ := K93
    refine C_seq ?_
    refine C_region ?_
    refine V_y (Y_lss rfl rfl) rfl rfl rfl ?_
    refine V_to (fun _ _ => rfl) ?_
    refine C_seq ?_
    refine C_cond rfl (fun hc94 => ?_) (fun hc94 => ?_)
    ·rw [if_pos hc94] at h88
     refine C_skip_to (fun _ _ => rfl) ?_
     refine C_seq ?_
     refine C_block ?_
     refine C_seq ?_
     refine C_region ?_
     refine V_mv rfl rfl ?_
     refine V_as rfl rfl ?_
     refine V_to (fun _ _ => rfl) ?_
     refine C_seq ?_
     refine C_region ?_
     refine V_mv rfl rfl ?_
     refine V_y (Y_lenSl (Hp.any (α := Int) (e := 3) (v := v83) (l := s79.2.1) hH (i := 0) rfl) rfl Tryz.underlying33 rfl) rfl rfl rfl ?_
     refine V_y (Y_subI rfl rfl) rfl rfl rfl ?_
     refine V_mv rfl rfl ?_
     refine V_y (Y_subI rfl rfl) rfl rfl rfl ?_
     refine V_as rfl rfl ?_
     refine V_to (fun _ _ => rfl) ?_
     refine C_seq ?_
     refine C_region_q (Dw := Dw) Tryz_mixed (by kernel_rfl) ?_
     refine VQ_y (fun w' hw' => Y_move rfl) rfl rfl rfl ?_
     refine VQ_y (fun w' hw' => Y_move rfl) rfl rfl rfl ?_
     refine VQ_y (fun w' hw' => Y_move rfl) rfl rfl rfl ?_
     refine VQ_y (fun w' hw' => Y_addI rfl rfl) rfl rfl rfl ?_
     obtain ⟨x95, hx95, h88⟩ := Option.bind_eq_some_iff.1 h88
     refine VQ_indexAddrH (α := Int) (e := 3) (v := v81) (l := s79.1) hH (i := 1) rfl hx95 Tryz.underlying33 Tryz.sizeOf3 rfl rfl rfl ?_
     intro b96 o97 h98 hl99
     refine VQ_y (fun w' hw' => Y_load (El.int (El.kp (Dw := Dw) h98 hw')) Tryz.isAgg3 rfl) rfl rfl rfl ?_
     refine VQ_y (fun w' hw' => Y_mulI rfl rfl) rfl rfl rfl ?_
     refine VQ_y (fun w' hw' => Y_move rfl) rfl rfl rfl ?_
     refine VQ_y (fun w' hw' => Y_move rfl) rfl rfl rfl ?_
     refine VQ_y (fun w' hw' => Y_move rfl) rfl rfl rfl ?_
     refine VQ_y (fun w' hw' => Y_addI rfl rfl) rfl rfl rfl ?_
     refine VQ_y (fun w' hw' => Y_subI rfl rfl) rfl rfl rfl ?_
     obtain ⟨x100, hx100, h88⟩ := Option.bind_eq_some_iff.1 h88
     refine VQ_indexAddrH (α := Int) (e := 3) (v := v81) (l := s79.1) hH (i := 1) rfl hx100 Tryz.underlying33 Tryz.sizeOf3 rfl rfl rfl ?_
     intro b101 o102 h103 hl104
     refine VQ_y (fun w' hw' => Y_load (El.int (El.kp (Dw := Dw) h103 hw')) Tryz.isAgg3 rfl) rfl rfl rfl ?_
     refine VQ_y (fun w' hw' => Y_addI rfl rfl) rfl rfl rfl ?_
     refine VQ_y (fun w' hw' => Y_assign rfl) rfl rfl rfl ?_
     refine VQ_to (fun _ _ => rfl) (fun w105 hk106 => ?_)
     have ht107 := Kp.tr hk106 hA hB
     replace hH := Hp.kp hH hk106
     replace h41 := Sl.tr h41 ht107
     replace hr68 := Tr.trans hr68 ht107
     replace hB := Nat.le_trans hB ht107.ex.size
     replace hA := ht107.new
     refine C_seq ?_
     refine C_region_q (Dw := Dw) Tryz_mixed (by kernel_rfl) ?_
     refine VQ_y (fun w' hw' => Y_move rfl) rfl rfl rfl ?_
     refine VQ_y (fun w' hw' => Y_move rfl) rfl rfl rfl ?_
     refine VQ_y (fun w' hw' => Y_move rfl) rfl rfl rfl ?_
     refine VQ_y (fun w' hw' => Y_subI rfl rfl) rfl rfl rfl ?_
     obtain ⟨x108, hx108, h88⟩ := Option.bind_eq_some_iff.1 h88
     refine VQ_indexAddr h41 hx108 Tryz.underlying33 Tryz.sizeOf3 rfl rfl rfl ?_
     intro b109 o110 h111
     refine VQ_y (fun w' hw' => Y_load (El.int (El.kp (Dw := Dw) h111 hw')) Tryz.isAgg3 rfl) rfl rfl rfl ?_
     obtain ⟨x112, hx112, h88⟩ := Option.bind_eq_some_iff.1 h88
     refine VQ_y (fun w' hw' => Y_quo hx112 rfl rfl) rfl rfl rfl ?_
     refine VQ_y (fun w' hw' => Y_move rfl) rfl rfl rfl ?_
     refine VQ_y (fun w' hw' => Y_move rfl) rfl rfl rfl ?_
     refine VQ_y (fun w' hw' => Y_move rfl) rfl rfl rfl ?_
     refine VQ_y (fun w' hw' => Y_subI rfl rfl) rfl rfl rfl ?_
     refine VQ_indexAddr h41 hx108 Tryz.underlying33 Tryz.sizeOf3 rfl rfl rfl ?_
     intro b113 o114 h115
     refine VQ_y (fun w' hw' => Y_load (El.int (El.kp (Dw := Dw) h115 hw')) Tryz.isAgg3 rfl) rfl rfl rfl ?_
     obtain ⟨x116, hx116, h88⟩ := Option.bind_eq_some_iff.1 h88
     refine VQ_y (fun w' hw' => Y_rem hx116 rfl rfl) rfl rfl rfl ?_
     refine VQ_y (fun w' hw' => Y_assign rfl) rfl rfl rfl ?_
     refine VQ_y (fun w' hw' => Y_assign rfl) rfl rfl rfl ?_
     refine VQ_to (fun _ _ => rfl) (fun w117 hk118 => ?_)
     have ht119 := Kp.tr hk118 hA hB
     replace hH := Hp.kp hH hk118
     replace h41 := Sl.tr h41 ht119
     replace hr68 := Tr.trans hr68 ht119
     replace hB := Nat.le_trans hB ht119.ex.size
     replace hA := ht119.new
     refine C_seq ?_
     obtain ⟨o120, ho120, h88⟩ := Option.bind_eq_some_iff.1 h88
     refine C_cutG (ι := ((Int × Int) × (Nat → Prop))) (fun ⟨s121, A127⟩ => [(8, .int .i64 x38), (9, v40), (10, .int .i64 (x39.length : Int)), (11, v81), (12, v83), (14, .int .i64 (w64 ((w64 ((s79.2.1.length : Int) - 1)) - s79.2.2))), (16, .int .i64 s121.1), (68, .int .i64 (x60.length : Int)), (69, .int .i64 s79.2.2)]) (fun ⟨s121, A127⟩ => fun w' => o120 = .fin s121 ∧ Hp w.heap.size A127 w' (obS (α := Int) 3 v83 s79.2.1 :: obS (α := Int) 3 v81 s79.1 :: []) ∧ Tr Dw w.heap.size A85 w117 A127 w') ?_ ?_
     ·refine C_block ?_
      refine C_while ho120 (fun s129 a w' => ∃ i : (Nat → Prop), Has ⟨177, [], none⟩ a ([(8, .int .i64 x38), (9, v40), (10, .int .i64 (x39.length : Int)), (11, v81), (12, v83), (14, .int .i64 (w64 ((w64 ((s79.2.1.length : Int) - 1)) - s79.2.2))), (16, .int .i64 s129.1), (17, .int .i64 s129.2), (68, .int .i64 (x60.length : Int)), (69, .int .i64 s79.2.2)]) ∧ Hp w.heap.size i w' (obS (α := Int) 3 v83 s79.2.1 :: obS (α := Int) 3 v81 s79.1 :: []) ∧ Tr Dw w.heap.size A85 w117 i w') (fun a ha => ⟨A85, ha.sub ⟨rfl, rfl, rfl, rfl, rfl, rfl, rfl, rfl, rfl, rfl, trivial⟩, ⟨hH, Tr.refl (Dw := Dw) hA⟩⟩) ?_
      rintro K s129 a w130 ⟨A131, ha162, hH132, hr122⟩ K139
      refine C_of ?_ ha162
      replace h41 := Sl.tr h41 hr122
      replace hB := Nat.le_trans hB hr122.ex.size
      replace hA := hr122.new
      replace hH : Hp w.heap.size A131 w130 (obS (α := Int) 3 v83 s79.2.1 :: obS (α := Int) 3 v81 s79.1 :: []) := hH132
      obtain ⟨x133, h134, h135⟩ := K139
      refine C_seq ?_
      refine C_seq ?_
      refine C_region_q (Dw := Dw) Tryz_mixed (by kernel_rfl) ?_
      refine VQ_y (fun w' hw' => Y_move rfl) rfl rfl rfl ?_
      refine VQ_y (fun w' hw' => Y_geq rfl rfl) rfl rfl rfl ?_
      refine VQ_y (fun w' hw' => Y_move rfl) rfl rfl rfl ?_
      obtain ⟨s141, hs141, h134⟩ := Option.bind_eq_some_iff.1 h134
      refine VQ_cut 23 (fun _ : Unit => [(8, .int .i64 x38), (9, v40), (10, .int .i64 (x39.length : Int)), (11, v81), (12, v83), (14, .int .i64 (w64 ((w64 ((s79.2.1.length : Int) - 1)) - s79.2.2))), (16, .int .i64 s129.1), (17, .int .i64 s129.2), (68, .int .i64 (x60.length : Int)), (69, .int .i64 s79.2.2), (131, .bool s141)]) (fun _ => True) ?_ ?_
      ·simp only [List.take, List.drop]
       rcases Bool.eq_false_or_eq_true (decide ((1000000000 : Int) ≤ s129.1)) with hc140 | hc140
       ·rw [if_pos hc140] at hs141
        refine VQ_gn rfl rfl rfl hc140 rfl rfl rfl ?_
        refine VQ_gn rfl rfl rfl hc140 rfl rfl rfl ?_
        refine VQ_gn rfl rfl rfl hc140 rfl rfl rfl ?_
        refine VQ_gu rfl rfl rfl rfl rfl ?_
        refine VQ_gu rfl rfl rfl rfl rfl ?_
        refine VQ_gu rfl rfl rfl rfl rfl ?_
        refine VQ_gu rfl rfl rfl rfl rfl ?_
        refine VQ_gu rfl rfl rfl rfl rfl ?_
        refine VQ_gu rfl rfl rfl rfl rfl ?_
        refine VQ_gu rfl rfl rfl rfl rfl ?_
        refine VQ_gu rfl rfl rfl rfl rfl ?_
        refine VQ_gu rfl rfl rfl rfl rfl ?_
        refine VQ_gu rfl rfl rfl rfl rfl ?_
        refine VQ_gu rfl rfl rfl rfl rfl ?_
        refine VQ_gu rfl rfl rfl rfl rfl ?_
        refine VQ_gu rfl rfl rfl rfl rfl ?_
        refine VQ_gu rfl rfl rfl rfl rfl ?_
        refine VQ_gu rfl rfl rfl rfl rfl ?_
        refine VQ_gu rfl rfl rfl rfl rfl ?_
        refine VQ_gu rfl rfl rfl rfl rfl ?_
        refine VQ_gu rfl rfl rfl rfl rfl ?_
        refine VQ_gn rfl rfl rfl hc140 rfl rfl rfl ?_
        refine VQ_y (fun _ _ => Y_pick_te rfl hc140 rfl) rfl rfl rfl ?_
        obtain rfl := Option.some.inj hs141
        exact VQ_end fun a ha => ⟨(), ha.sub ⟨rfl, rfl, rfl, rfl, rfl, rfl, rfl, rfl, rfl, rfl, rfl, trivial⟩, trivial⟩
       ·rw [if_neg (nt hc140)] at hs141
        refine VQ_ge rfl rfl rfl hc140 ?_
        refine VQ_y (fun w' hw' => Y_move rfl) rfl rfl rfl ?_
        refine VQ_ge rfl rfl rfl hc140 ?_
        refine VQ_y (fun w' hw' => Y_lss rfl rfl) rfl rfl rfl ?_
        refine VQ_ge rfl rfl rfl hc140 ?_
        refine VQ_y (fun w' hw' => Y_move rfl) rfl rfl rfl ?_
        obtain ⟨s143, hs143, hs141⟩ := Option.bind_eq_some_iff.1 hs141
        refine VQ_cut 19 (fun _ : Unit => [(8, .int .i64 x38), (9, v40), (10, .int .i64 (x39.length : Int)), (11, v81), (12, v83), (14, .int .i64 (w64 ((w64 ((s79.2.1.length : Int) - 1)) - s79.2.2))), (16, .int .i64 s129.1), (17, .int .i64 s129.2), (68, .int .i64 (x60.length : Int)), (69, .int .i64 s79.2.2), (108, .bool (decide ((1000000000 : Int) ≤ s129.1))), (130, .bool s143)]) (fun _ => True) ?_ ?_
        ·simp only [List.take, List.drop]
         rcases Bool.eq_false_or_eq_true (decide (s129.2 < 1000000000)) with hc142 | hc142
         ·rw [if_pos hc142] at hs143
          refine VQ_ge rfl rfl rfl hc142 ?_
          refine VQ_y (fun w' hw' => Y_move rfl) rfl rfl rfl ?_
          refine VQ_ge rfl rfl rfl hc142 ?_
          refine VQ_y (fun w' hw' => Y_move rfl) rfl rfl rfl ?_
          refine VQ_ge rfl rfl rfl hc142 ?_
          refine VQ_y (fun w' hw' => Y_move rfl) rfl rfl rfl ?_
          refine VQ_ge rfl rfl rfl hc142 ?_
          refine VQ_y (fun w' hw' => Y_subI rfl rfl) rfl rfl rfl ?_
          refine VQ_ge rfl rfl rfl hc142 ?_
          obtain ⟨x144, hx144, hs143⟩ := Option.bind_eq_some_iff.1 hs143
          refine VQ_indexAddr h41 hx144 Tryz.underlying33 Tryz.sizeOf3 rfl rfl rfl ?_
          intro b145 o146 h147
          refine VQ_ge rfl rfl rfl hc142 ?_
          refine VQ_y (fun w' hw' => Y_load (El.int (El.kp (Dw := Dw) h147 hw')) Tryz.isAgg3 rfl) rfl rfl rfl ?_
          refine VQ_ge rfl rfl rfl hc142 ?_
          refine VQ_y (fun w' hw' => Y_mulI rfl rfl) rfl rfl rfl ?_
          refine VQ_ge rfl rfl rfl hc142 ?_
          refine VQ_y (fun w' hw' => Y_move rfl) rfl rfl rfl ?_
          refine VQ_ge rfl rfl rfl hc142 ?_
          refine VQ_y (fun w' hw' => Y_mulI rfl rfl) rfl rfl rfl ?_
          refine VQ_ge rfl rfl rfl hc142 ?_
          refine VQ_y (fun w' hw' => Y_move rfl) rfl rfl rfl ?_
          refine VQ_ge rfl rfl rfl hc142 ?_
          refine VQ_y (fun w' hw' => Y_move rfl) rfl rfl rfl ?_
          refine VQ_ge rfl rfl rfl hc142 ?_
          refine VQ_y (fun w' hw' => Y_move rfl) rfl rfl rfl ?_
          refine VQ_ge rfl rfl rfl hc142 ?_
          refine VQ_y (fun w' hw' => Y_addI rfl rfl) rfl rfl rfl ?_
          refine VQ_ge rfl rfl rfl hc142 ?_
          refine VQ_y (fun w' hw' => Y_subI rfl rfl) rfl rfl rfl ?_
          refine VQ_ge rfl rfl rfl hc142 ?_
          obtain ⟨x148, hx148, hs143⟩ := Option.bind_eq_some_iff.1 hs143
          refine VQ_indexAddrH (α := Int) (e := 3) (v := v81) (l := s79.1) hH (i := 1) rfl hx148 Tryz.underlying33 Tryz.sizeOf3 rfl rfl rfl ?_
          intro b149 o150 h151 hl152
          refine VQ_ge rfl rfl rfl hc142 ?_
          refine VQ_y (fun w' hw' => Y_load (El.int (El.kp (Dw := Dw) h151 hw')) Tryz.isAgg3 rfl) rfl rfl rfl ?_
          refine VQ_ge rfl rfl rfl hc142 ?_
          refine VQ_y (fun w' hw' => Y_addI rfl rfl) rfl rfl rfl ?_
          refine VQ_ge rfl rfl rfl hc142 ?_
          refine VQ_y (fun w' hw' => Y_gtr rfl rfl) rfl rfl rfl ?_
          refine VQ_ge rfl rfl rfl hc140 ?_
          refine VQ_y (fun _ _ => Y_pick_te rfl hc142 rfl) rfl rfl rfl ?_
          obtain rfl := Option.some.inj hs143
          exact VQ_end fun a ha => ⟨(), ha.sub ⟨rfl, rfl, rfl, rfl, rfl, rfl, rfl, rfl, rfl, rfl, rfl, rfl, trivial⟩, trivial⟩
         ·rw [if_neg (nt hc142)] at hs143
          refine VQ_gn rfl rfl rfl hc142 rfl rfl rfl ?_
          refine VQ_gn rfl rfl rfl hc142 rfl rfl rfl ?_
          refine VQ_gn rfl rfl rfl hc142 rfl rfl rfl ?_
          refine VQ_gn rfl rfl rfl hc142 rfl rfl rfl ?_
          refine VQ_gn rfl rfl rfl hc142 rfl rfl rfl ?_
          refine VQ_gn rfl rfl rfl hc142 rfl rfl rfl ?_
          refine VQ_gn rfl rfl rfl hc142 rfl rfl rfl ?_
          refine VQ_gn rfl rfl rfl hc142 rfl rfl rfl ?_
          refine VQ_gn rfl rfl rfl hc142 rfl rfl rfl ?_
          refine VQ_gn rfl rfl rfl hc142 rfl rfl rfl ?_
          refine VQ_gn rfl rfl rfl hc142 rfl rfl rfl ?_
          refine VQ_gn rfl rfl rfl hc142 rfl rfl rfl ?_
          refine VQ_gn rfl rfl rfl hc142 rfl rfl rfl ?_
          refine VQ_gn rfl rfl rfl hc142 rfl rfl rfl ?_
          refine VQ_gn rfl rfl rfl hc142 rfl rfl rfl ?_
          refine VQ_gn rfl rfl rfl hc142 rfl rfl rfl ?_
          refine VQ_gn rfl rfl rfl hc142 rfl rfl rfl ?_
          refine VQ_gn rfl rfl rfl hc142 rfl rfl rfl ?_
          refine VQ_ge rfl rfl rfl hc140 ?_
          refine VQ_y (fun _ _ => Y_pick_fe rfl hc142 rfl) rfl rfl rfl ?_
          obtain rfl := Option.some.inj hs143
          exact VQ_end fun a ha => ⟨(), ha.sub ⟨rfl, rfl, rfl, rfl, rfl, rfl, rfl, rfl, rfl, rfl, rfl, rfl, trivial⟩, trivial⟩
        simp only [List.take, List.drop]
        rintro _ _
        refine VQ_y (fun _ _ => Y_pick_fe rfl hc140 rfl) rfl rfl rfl ?_
        obtain rfl := Option.some.inj hs141
        exact VQ_end fun a ha => ⟨(), ha.sub ⟨rfl, rfl, rfl, rfl, rfl, rfl, rfl, rfl, rfl, rfl, rfl, trivial⟩, trivial⟩
      simp only [List.take, List.drop]
      rintro _ _
      refine VQ_to (fun _ _ => rfl) (fun w153 hk154 => ?_)
      have ht155 := Kp.tr hk154 hA hB
      replace hH := Hp.kp hH hk154
      replace h41 := Sl.tr h41 ht155
      replace hr122 := Tr.trans hr122 ht155
      refine C_cond rfl (fun hc156 => ?_) (fun hc156 => ?_)
      ·rw [if_pos hc156] at h134
       refine C_skip_to (fun _ _ => rfl) ?_
       refine C_block ?_
       refine C_seq ?_
       refine C_region ?_
       refine V_mv rfl rfl ?_
       refine V_y (Y_subI rfl rfl) rfl rfl rfl ?_
       refine V_as rfl rfl ?_
       refine V_to (fun _ _ => rfl) ?_
       refine C_region ?_
       refine V_mv rfl rfl ?_
       refine V_mv rfl rfl ?_
       refine V_mv rfl rfl ?_
       refine V_y (Y_subI rfl rfl) rfl rfl rfl ?_
       refine V_indexAddr h41 hx108 Tryz.underlying33 Tryz.sizeOf3 rfl rfl rfl ?_
       intro b157 o158 h159
       refine V_y (Y_load (El.int h159) Tryz.isAgg3 rfl) rfl rfl rfl ?_
       refine V_y (Y_addI rfl rfl) rfl rfl rfl ?_
       refine V_as rfl rfl ?_
       obtain rfl := Option.some.inj h134
       refine V_end (fun a ha160 => ?_)
       exact ⟨(w64 (s129.1 - 1), w64 (s129.2 + x108)), h135, ⟨A131, ha160.sub ⟨rfl, rfl, rfl, rfl, rfl, rfl, rfl, rfl, rfl, rfl, trivial⟩, ⟨hH, hr122⟩⟩⟩
      ·rw [if_neg (nt hc156)] at h134
       obtain rfl := Option.some.inj h134
       refine C_exit (fun a ha161 => ?_)
       exact ⟨((s129.1, s129.2), A131), ha161.sub ⟨rfl, rfl, rfl, rfl, rfl, rfl, rfl, rfl, rfl, trivial⟩, ⟨h135.symm, hH, hr122⟩⟩
     rintro ⟨s121, A127⟩ w124 ⟨rfl, hH128, hk125⟩ a ha126
     rw [Lp.andThen_fin] at h88
     replace h41 := Sl.tr h41 hk125
     replace hr68 := Tr.trans hr68 hk125
     replace hB := Nat.le_trans hB hk125.ex.size
     replace hA := hk125.new
     replace hH : Hp w.heap.size A127 w124 (obS (α := Int) 3 v83 s79.2.1 :: obS (α := Int) 3 v81 s79.1 :: []) := hH128
     refine C_at (n := ⟨177, [], none⟩) (fun _ _ => rfl) ?_ ha126
     refine C_seq ?_
     refine C_seq ?_
     refine C_region ?_
     refine V_mv rfl rfl ?_
     refine V_mv rfl rfl ?_
     refine V_mv rfl rfl ?_
     refine V_mv rfl rfl ?_
     refine V_y (Y_addI rfl rfl) rfl rfl rfl ?_
     refine V_y (Y_addI rfl rfl) rfl rfl rfl ?_
     obtain ⟨x163, hx163, h88⟩ := Option.bind_eq_some_iff.1 h88
     refine V_winS (e := 3) (v := v81) (l := s79.1) hH (i := 1) rfl hx163 Tryz.underlying33 Tryz.sizeOf3 rfl rfl rfl rfl ?_
     intro v164 hw165
     refine V_mv rfl rfl ?_
     refine V_mv rfl rfl ?_
     replace hH : Hp w.heap.size A127 w124 (obS (α := Int) 3 v81 s79.1 :: obS (α := Int) 3 v83 s79.2.1 :: []) := Hp.front hH (i := 1) rfl
     obtain ⟨x169, hx169, h88⟩ := Option.bind_eq_some_iff.1 h88
     obtain ⟨q166, hq167, hH168⟩ := Hp.win hH (i := 0) rfl hA hw165
     refine V_call Tryz.call35 rfl rfl rfl rfl (staff_takeAway_c (Dw := Dw) w124 hB hA x163 v164 x39 v40 h41 s121.1 hH168 hx169) ?_
     rintro _ w170 ⟨_, A171, rfl, hH172, ht173⟩
     have hH174 := Hp.unwin hH172 ht173.new hw165 hq167
     replace h41 := Sl.tr h41 ht173
     replace hr68 := Tr.trans hr68 ht173
     replace hB := Nat.le_trans hB ht173.ex.size
     replace hA := ht173.new
     replace hH : Hp w.heap.size A171 w170 (obS (α := Int) 3 v81 (winS s79.1 (w64 ((w64 ((s79.2.1.length : Int) - 1)) - s79.2.2)) (w64 ((w64 ((w64 ((w64 ((s79.2.1.length : Int) - 1)) - s79.2.2)) + (x39.length : Int))) + 1)) x169.2) :: obS (α := Int) 3 v83 s79.2.1 :: []) := hH174
     refine V_to (fun _ _ => rfl) ?_
     obtain ⟨s176, ho175, h88⟩ := Option.bind_eq_some_iff.1 h88
     refine C_cutG (ι := (Value × (Nat → Prop))) (fun ⟨v178, A183⟩ => [(8, .int .i64 x38), (9, v40), (10, .int .i64 (x39.length : Int)), (11, v178), (12, v83), (14, .int .i64 (w64 ((w64 ((s79.2.1.length : Int) - 1)) - s79.2.2))), (16, .int .i64 s176.2), (68, .int .i64 (x60.length : Int)), (69, .int .i64 s79.2.2)]) (fun ⟨v178, A183⟩ => fun w' => Hp w.heap.size A183 w' (obS (α := Int) 3 v178 s176.1 :: obS (α := Int) 3 v83 s79.2.1 :: []) ∧ Tr Dw w.heap.size A171 w170 A183 w') ?_ ?_
     ·have hr177 : Tr Dw w.heap.size A171 w170 A171 w170 := Tr.refl (Dw := Dw) hA
      refine C_cond rfl (fun hc185 => ?_) (fun hc185 => ?_)
      ·rw [if_pos hc185] at ho175
       refine C_seq ?_
       refine C_region ?_
       refine V_mv rfl rfl ?_
       refine V_y (Y_subI rfl rfl) rfl rfl rfl ?_
       refine V_as rfl rfl ?_
       refine V_to (fun _ _ => rfl) ?_
       refine C_region ?_
       refine V_mv rfl rfl ?_
       refine V_mv rfl rfl ?_
       refine V_mv rfl rfl ?_
       refine V_mv rfl rfl ?_
       refine V_y (Y_addI rfl rfl) rfl rfl rfl ?_
       refine V_y (Y_addI rfl rfl) rfl rfl rfl ?_
       obtain ⟨x186, hx186, ho175⟩ := Option.bind_eq_some_iff.1 ho175
       refine V_winS (e := 3) (v := v81) (l := (winS s79.1 (w64 ((w64 ((s79.2.1.length : Int) - 1)) - s79.2.2)) (w64 ((w64 ((w64 ((w64 ((s79.2.1.length : Int) - 1)) - s79.2.2)) + (x39.length : Int))) + 1)) x169.2)) hH (i := 0) rfl hx186 Tryz.underlying33 Tryz.sizeOf3 rfl rfl rfl rfl ?_
       intro v187 hw188
       refine V_mv rfl rfl ?_
       obtain ⟨x192, hx192, ho175⟩ := Option.bind_eq_some_iff.1 ho175
       obtain ⟨q189, hq190, hH191⟩ := Hp.win hH (i := 0) rfl hA hw188
       refine V_call Tryz.call36 rfl rfl rfl rfl (staff_putBack_c (Dw := Dw) w170 hB hA x186 v187 x39 v40 h41 hH191 hx192) ?_
       rintro _ w193 ⟨_, A194, rfl, hH195, ht196⟩
       have hH197 := Hp.unwin hH195 ht196.new hw188 hq190
       replace hr177 := Tr.trans hr177 ht196
       replace hH : Hp w.heap.size A194 w193 (obS (α := Int) 3 v81 (winS (winS s79.1 (w64 ((w64 ((s79.2.1.length : Int) - 1)) - s79.2.2)) (w64 ((w64 ((w64 ((w64 ((s79.2.1.length : Int) - 1)) - s79.2.2)) + (x39.length : Int))) + 1)) x169.2) (w64 ((w64 ((s79.2.1.length : Int) - 1)) - s79.2.2)) (w64 ((w64 ((w64 ((w64 ((s79.2.1.length : Int) - 1)) - s79.2.2)) + (x39.length : Int))) + 1)) x192) :: obS (α := Int) 3 v83 s79.2.1 :: []) := hH197
       obtain rfl := Option.some.inj ho175
       refine V_end (fun a ha198 => ?_)
       exact ⟨(v81, A194), ha198.sub ⟨rfl, rfl, rfl, rfl, rfl, rfl, rfl, rfl, rfl, trivial⟩, ⟨hH, hr177⟩⟩
      ·rw [if_neg (nt hc185)] at ho175
       obtain rfl := Option.some.inj ho175
       refine C_skip (fun a ha199 => ?_)
       exact ⟨(v81, A171), ha199.sub ⟨rfl, rfl, rfl, rfl, rfl, rfl, rfl, rfl, rfl, trivial⟩, ⟨hH, hr177⟩⟩
     rintro ⟨v178, A183⟩ w180 ⟨hH184, hk181⟩ a ha182
     replace hr68 := Tr.trans hr68 hk181
     replace hB := Nat.le_trans hB hk181.ex.size
     replace hA := hk181.new
     replace hH : Hp w.heap.size A183 w180 (obS (α := Int) 3 v178 s176.1 :: obS (α := Int) 3 v83 s79.2.1 :: []) := hH184
     refine C_at (n := ⟨177, [], none⟩) (fun _ _ => rfl) ?_ ha182
     refine C_region ?_
     refine V_mv rfl rfl ?_
     refine V_mv rfl rfl ?_
     refine V_mv rfl rfl ?_
     obtain ⟨x200, hx200, h88⟩ := Option.bind_eq_some_iff.1 h88
     refine V_indexAddrH (α := Int) (e := 3) (v := v83) (l := s79.2.1) hH (i := 1) rfl hx200 Tryz.underlying33 Tryz.sizeOf3 rfl rfl rfl ?_
     intro b201 o202 h203 hl204
     obtain ⟨x205, hx205, h88⟩ := Option.bind_eq_some_iff.1 h88
     refine V_storeH (Dw := Dw) (α := Int) (e := 3) (v := v83) (l := s79.2.1) hH (i := 1) rfl hl204 hx205 rfl Tryz.sizeOf3 rfl hB hA rfl rfl ?_
     intro w206 hH207 ht208
     replace hr68 := Tr.trans hr68 ht208
     replace hH : Hp w.heap.size A183 w206 (obS (α := Int) 3 v178 s176.1 :: obS (α := Int) 3 v83 x205 :: []) := hH207
     refine V_to (fun _ _ => rfl) ?_
     refine C_region ?_
     refine V_y (Y_addI rfl rfl) rfl rfl rfl ?_
     refine V_mv rfl rfl ?_
     obtain rfl := Option.some.inj h88
     refine V_end (fun a ha209 => ?_)
     replace hH : Hp w.heap.size A183 w206 (obS (α := Int) 3 v83 x205 :: obS (α := Int) 3 v178 s176.1 :: []) := Hp.front hH (i := 1) rfl
     exact ⟨(s176.1, x205, w64 (s79.2.2 + 1)), h89, ⟨(v178, v83, A183), ha209.sub ⟨rfl, rfl, rfl, rfl, rfl, rfl, rfl, trivial⟩, ⟨hH, hr68⟩⟩⟩
    ·rw [if_neg (nt hc94)] at h88
     obtain rfl := Option.some.inj h88
     refine C_exit (fun a ha210 => ?_)
     exact ⟨((s79.1, s79.2.1, s79.2.2), v81, v83, A85), ha210.sub ⟨rfl, rfl, rfl, trivial⟩, ⟨h89.symm, hH, hr68⟩⟩
   rintro ⟨s67, v73, v75, A77⟩ w70 ⟨rfl, hH78, hk71⟩ a ha72
   rw [Lp.andThen_fin] at hm
   replace hK := Tr.trans hK hk71
   replace hB := Nat.le_trans hB hk71.ex.size
   replace hA := hk71.new
   replace hH : Hp w.heap.size A77 w70 (obS (α := Int) 3 v75 s67.2.1 :: obS (α := Int) 3 v73 s67.1 :: []) := hH78
   refine C_at (n := ⟨177, [], none⟩) (fun _ _ => rfl) ?_ ha72
   refine C_seq ?_
   refine C_region ?_
   refine V_mv rfl rfl ?_
   obtain ⟨A212, ht213, h214, hH215⟩ := Hp.freeze (Dw := Dw) (α := Int) (v := v73) (l := s67.1) hH (i := 1) rfl hA
   replace hK := Tr.trans hK ht213
   replace hB := Nat.le_trans hB ht213.ex.size
   replace hA := ht213.new
   replace hH : Hp w.heap.size A212 w70 (obS (α := Int) 3 v75 s67.2.1 :: []) := hH215
   obtain ⟨x217, hx217, hm⟩ := Option.bind_eq_some_iff.1 hm
   refine V_call Tryz.call37 rfl rfl rfl rfl (staff_nat_trimmed_c w70 s67.1 v73 h214 hx217) ?_
   rintro v218 _ ⟨_, rfl, h219, rfl⟩
   refine V_mv rfl rfl ?_
   obtain ⟨x220, hx220, hm⟩ := Option.bind_eq_some_iff.1 hm
   refine V_call Tryz.call32 rfl rfl rfl rfl (staff_nat_part_c (Dw := Dw) w70 hA x217 v218 h219 x38 hx220) ?_
   rintro _ w223 ⟨v221, rfl, h222, hk224⟩
   have ht225 := Kp.tr hk224 hA hB
   replace hH := Hp.kp hH hk224
   replace hK := Tr.trans hK ht225
   replace hA := ht225.new
   refine V_mv rfl rfl ?_
   refine V_y (Y_extract rfl rfl) rfl rfl rfl ?_
   refine V_y (Y_extract rfl rfl) rfl rfl rfl ?_
   refine V_as rfl rfl ?_
   refine V_as rfl rfl ?_
   refine V_to (fun _ _ => rfl) ?_
   refine C_seq ?_
   refine C_region ?_
   refine V_mv rfl rfl ?_
   obtain ⟨A226, ht227, h228, hH229⟩ := Hp.freeze (Dw := Dw) (α := Int) (v := v75) (l := s67.2.1) hH (i := 0) rfl hA
   replace h222 := Sl.tr h222 ht227
   replace hK := Tr.trans hK ht227
   replace hH : Hp w.heap.size A226 w223 ([]) := hH229
   obtain ⟨x231, hx231, hm⟩ := Option.bind_eq_some_iff.1 hm
   refine V_call Tryz.call37 rfl rfl rfl rfl (staff_nat_trimmed_c w223 s67.2.1 v75 h228 hx231) ?_
   rintro v232 _ ⟨_, rfl, h233, rfl⟩
   refine V_mv rfl rfl ?_
   refine V_as rfl rfl ?_
   refine V_as rfl rfl ?_
   refine V_to (fun _ _ => rfl) ?_
   obtain rfl := Option.some.inj hm
   refine C_ret ?_
   try simp only [↓inBlock_ret, ↓then_ret]
   exact retQ rfl (Res.two Tryz.results17 rfl rfl) ⟨v232, v221, rfl, (Sl.out (Dw := Dw) h233 hA0 hK), (Sl.out (Dw := Dw) h222 hA0 hK), hK.kp⟩

set_option maxRecDepth 4000 in
set_option maxHeartbeats 4000000 in
theorem staff_divisor_c (w : World) {A : Nat → Prop} (hA : ∀ b, w.heap.size ≤ b → A b) (a_ : (List Int)) (v_a_ : Value) (h_a_ : Sl A w v_a_ a_) (b : (List Int)) (v_b : Value) (h_b : Sl A w v_b b) {r : (List Int)} (hm : staff_divisor a_ b = some r) : Ret Tryz.prog 16 #[v_a_, v_b] w fun v w' => ∃ s0, v = s0 ∧ Sl A w' s0 r ∧ Kp Dw w w' := by
 unfold staff_divisor at hm
 refine enter Tryz.func16 rfl Tryz.ntmps16 rfl ?_
 have hA0 := hA
 have hB := Nat.le_refl w.heap.size
 have hK : Tr Dw w.heap.size A w A w := Tr.refl (Dw := Dw) hA
 have hH : Hp w.heap.size A w [] := Hp.nil
 refine C_seq ?_
 refine C_region ?_
 refine V_as rfl rfl ?_
 refine V_to (fun _ _ => rfl) ?_
 refine C_seq ?_
 obtain ⟨o5, ho5, hm⟩ := Option.bind_eq_some_iff.1 hm
 refine C_cutG (ι := (((List Int) × (List Int)) × Value × Value × (Nat → Prop))) (fun ⟨s6, v12, v14, A16⟩ => [(0, v12)]) (fun ⟨s6, v12, v14, A16⟩ => fun w' => o5 = .fin s6 ∧ Sl A16 w' v12 s6.1 ∧ Sl A16 w' v14 s6.2 ∧ Hp w.heap.size A16 w' ([]) ∧ Tr Dw w.heap.size A w A16 w') ?_ ?_
 ·refine C_block ?_
  refine C_while ho5 (fun s18 a w' => ∃ i : (Value × Value × (Nat → Prop)), Has ⟨19, [], none⟩ a ([(0, i.1), (1, i.2.1)]) ∧ Sl i.2.2 w' i.1 s18.1 ∧ Sl i.2.2 w' i.2.1 s18.2 ∧ Hp w.heap.size i.2.2 w' ([]) ∧ Tr Dw w.heap.size A w i.2.2 w') (fun a ha => ⟨(v_a_, v_b, A), ha.sub ⟨rfl, rfl, trivial⟩, ⟨h_a_, h_b, hH, Tr.refl (Dw := Dw) hA⟩⟩) ?_
  rintro K s18 a w19 ⟨⟨v20, v22, A24⟩, ha44, h21, h23, hH25, hr7⟩ K32
  refine C_of ?_ ha44
  replace hB := Nat.le_trans hB hr7.ex.size
  replace hA := hr7.new
  replace hH : Hp w.heap.size A24 w19 ([]) := hH25
  obtain ⟨x26, h27, h28⟩ := K32
  refine C_seq ?_
  refine C_seq ?_
  refine C_region ?_
  refine V_mv rfl rfl ?_
  refine V_y (Y_lenSl h23 rfl Tryz.underlying33 rfl) rfl rfl rfl ?_
  refine V_y (Y_gtr rfl rfl) rfl rfl rfl ?_
  refine V_to (fun _ _ => rfl) ?_
  refine C_cond rfl (fun hc33 => ?_) (fun hc33 => ?_)
  ·rw [if_pos hc33] at h27
   refine C_skip_to (fun _ _ => rfl) ?_
   refine C_block ?_
   refine C_seq ?_
   refine C_region ?_
   refine V_mv rfl rfl ?_
   refine V_mv rfl rfl ?_
   obtain ⟨x34, hx34, h27⟩ := Option.bind_eq_some_iff.1 h27
   refine V_call Tryz.call17 rfl rfl rfl rfl (staff_nat_by_c (Dw := Dw) w19 hA s18.1 v20 h21 s18.2 v22 h23 hx34) ?_
   rintro _ w39 ⟨v35, v37, rfl, h36, h38, hk40⟩
   have ht41 := Kp.tr hk40 hA hB
   replace hH := Hp.kp hH hk40
   replace h23 := Sl.tr h23 ht41
   replace hr7 := Tr.trans hr7 ht41
   refine V_mv rfl rfl ?_
   refine V_y (Y_extract rfl rfl) rfl rfl rfl ?_
   refine V_y (Y_extract rfl rfl) rfl rfl rfl ?_
   refine V_as rfl rfl ?_
   refine V_as rfl rfl ?_
   refine V_to (fun _ _ => rfl) ?_
   refine C_region ?_
   refine V_mv rfl rfl ?_
   refine V_mv rfl rfl ?_
   refine V_as rfl rfl ?_
   refine V_as rfl rfl ?_
   obtain rfl := Option.some.inj h27
   refine V_end (fun a ha42 => ?_)
   exact ⟨(s18.2, x34.2), h28, ⟨(v22, v37, A24), ha42.sub ⟨rfl, rfl, trivial⟩, ⟨h23, h38, hH, hr7⟩⟩⟩
  ·rw [if_neg (nt hc33)] at h27
   obtain rfl := Option.some.inj h27
   refine C_exit (fun a ha43 => ?_)
   exact ⟨((s18.1, s18.2), v20, v22, A24), ha43.sub ⟨rfl, trivial⟩, ⟨h28.symm, h21, h23, hH, hr7⟩⟩
 rintro ⟨s6, v12, v14, A16⟩ w9 ⟨rfl, h13, h15, hH17, hk10⟩ a ha11
 rw [Lp.andThen_fin] at hm
 replace hK := Tr.trans hK hk10
 replace hA := hk10.new
 replace hH : Hp w.heap.size A16 w9 ([]) := hH17
 refine C_at (n := ⟨19, [], none⟩) (fun _ _ => rfl) ?_ ha11
 refine C_seq ?_
 refine C_region ?_
 refine V_mv rfl rfl ?_
 refine V_as rfl rfl ?_
 refine V_to (fun _ _ => rfl) ?_
 obtain rfl := Option.some.inj hm
 refine C_ret ?_
 try simp only [↓inBlock_ret, ↓then_ret]
 exact retQ rfl (Res.one Tryz.results16 rfl) ⟨v12, rfl, (Sl.out (Dw := Dw) h13 hA0 hK), hK.kp⟩

end Go.Proofs.YtnnbhehaplphiaaGreatDoor.W
