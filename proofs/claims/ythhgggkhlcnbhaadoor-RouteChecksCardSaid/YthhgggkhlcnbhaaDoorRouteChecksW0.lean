/-
  Written by program (gen.py) from the IR of the dump: each function computes its model.
-/
import Derived.Test.YthhgggkhlcnbhaaDoorProg
import Derived.Test.YthhgggkhlcnbhaaDoorGe
import Derived.Test.YthhgggkhlcnbhaaDoorRouteChecksM
import Derived.KernelRfl
import Derived.Shelf.Strings.BuilderK
import Derived.Shelf.Strings.BuilderK
import Derived.Shelf.Strconv.Itoa3
import Derived.Shelf.Strings.OnBuilder
import Derived.Shelf.Strings.SlTrimAscii
import Derived.Test.YthhgggkhlcnbhaaDoorGi
import Derived.Test.YthhgggkhlcnbhaaDoorGj
import Derived.Test.YthhgggkhlcnbhaaDoorGl
import Derived.Test.YthhgggkhlcnbhaaDoorGv
namespace Go.Proofs.YthhgggkhlcnbhaaDoor.W
open Go Go.RowKit Go.Pu Go.Gw Go.Proofs Go.Proofs.YthhgggkhlcnbhaaDoor.M
set_option linter.unusedVariables false
set_option linter.unusedSimpArgs false

theorem Tryd_info9 : Tryd.prog.info? 9 = some Tryd.t9 := by kernel_rfl
theorem Tryd_info20 : Tryd.prog.info? 20 = some Tryd.t20 := by kernel_rfl
theorem Tryd_mixed : Tryd.prog.follows .mixedOrders = true := by kernel_rfl

instance : GoT AnyV := anyT 9 3
instance : Flat AnyV := anyFlat 9 3
instance : GoT route_Skill := GoT.of (β := ByteArray × Int) fun x => (x.name, x.rank)

instance : Flat route_Skill := ⟨fun {A w A1 w1 cs x} h => Flat.flat (α := ByteArray × Int) (x := (x.name, x.rank)) (A := A) (w := w) h⟩

theorem El_route_Skill_ {A : Nat → Prop} {w : World} {b off : Nat} {x : route_Skill} (h : El A w b off x) : El (α := ByteArray × Int) A w b off (x.name, x.rank) := h

theorem El_route_Skill_0 {A : Nat → Prop} {w : World} {b off : Nat} {x : route_Skill} (h : El A w b off x) : El A w b (off + 0) x.name := El.fst (El_route_Skill_ h)

theorem El_route_Skill_1 {A : Nat → Prop} {w : World} {b off : Nat} {x : route_Skill} (h : El A w b off x) : El A w b (off + 1) x.rank := El.snd (El_route_Skill_ h)

theorem El_route_Skill {A : Nat → Prop} {w : World} {b off : Nat} {x : route_Skill} (h : El A w b off x) : At w b off [.string x.name, .int .i64 x.rank] ∧ True := by
  obtain ⟨h1, h2, cs, h3, h4⟩ := h
  obtain ⟨_, _, rfl, rfl, rfl⟩ := h3
  exact ⟨h4, trivial⟩

instance : GoT route_Person := GoT.of (β := Int × Int × Int × (List route_Skill)) fun x => (x.no, x.capacity, x.calendar, x.skills)

theorem El_route_Person_ {A : Nat → Prop} {w : World} {b off : Nat} {x : route_Person} (h : El A w b off x) : El (α := Int × Int × Int × (List route_Skill)) A w b off (x.no, x.capacity, x.calendar, x.skills) := h

theorem El_route_Person_0 {A : Nat → Prop} {w : World} {b off : Nat} {x : route_Person} (h : El A w b off x) : El A w b (off + 0) x.no := El.fst (El_route_Person_ h)

theorem El_route_Person_1 {A : Nat → Prop} {w : World} {b off : Nat} {x : route_Person} (h : El A w b off x) : El A w b (off + 1) x.capacity := El.fst (El.snd (El_route_Person_ h))

theorem El_route_Person_2 {A : Nat → Prop} {w : World} {b off : Nat} {x : route_Person} (h : El A w b off x) : El A w b (off + 2) x.calendar := El.fst (El.snd (El.snd (El_route_Person_ h)))

theorem El_route_Person_3 {A : Nat → Prop} {w : World} {b off : Nat} {x : route_Person} (h : El A w b off x) : El A w b (off + 3) x.skills := El.snd (El.snd (El.snd (El_route_Person_ h)))

theorem El_route_Person {A : Nat → Prop} {w : World} {b off : Nat} {x : route_Person} (h : El A w b off x) : ∃ v1, At w b off [.int .i64 x.no, .int .i64 x.capacity, .int .i64 x.calendar, v1] ∧ Sl A w v1 x.skills := by
  obtain ⟨h1, h2, cs, h3, h4⟩ := h
  obtain ⟨_, _, rfl, rfl, ⟨_, _, rfl, rfl, ⟨_, _, rfl, rfl, ⟨u1, rfl, g1⟩⟩⟩⟩ := h3
  exact ⟨u1, h4, g1⟩

instance : GoT route_Work := GoT.of (β := Int × Int × Int × Int × Int × (List route_Skill)) fun x => (x.ticket, x.weight, x.urgency, x.since, x.former, x.needs)

theorem El_route_Work_ {A : Nat → Prop} {w : World} {b off : Nat} {x : route_Work} (h : El A w b off x) : El (α := Int × Int × Int × Int × Int × (List route_Skill)) A w b off (x.ticket, x.weight, x.urgency, x.since, x.former, x.needs) := h

theorem El_route_Work_0 {A : Nat → Prop} {w : World} {b off : Nat} {x : route_Work} (h : El A w b off x) : El A w b (off + 0) x.ticket := El.fst (El_route_Work_ h)

theorem El_route_Work_1 {A : Nat → Prop} {w : World} {b off : Nat} {x : route_Work} (h : El A w b off x) : El A w b (off + 1) x.weight := El.fst (El.snd (El_route_Work_ h))

theorem El_route_Work_2 {A : Nat → Prop} {w : World} {b off : Nat} {x : route_Work} (h : El A w b off x) : El A w b (off + 2) x.urgency := El.fst (El.snd (El.snd (El_route_Work_ h)))

theorem El_route_Work_3 {A : Nat → Prop} {w : World} {b off : Nat} {x : route_Work} (h : El A w b off x) : El A w b (off + 3) x.since := El.fst (El.snd (El.snd (El.snd (El_route_Work_ h))))

theorem El_route_Work_4 {A : Nat → Prop} {w : World} {b off : Nat} {x : route_Work} (h : El A w b off x) : El A w b (off + 4) x.former := El.fst (El.snd (El.snd (El.snd (El.snd (El_route_Work_ h)))))

theorem El_route_Work_5 {A : Nat → Prop} {w : World} {b off : Nat} {x : route_Work} (h : El A w b off x) : El A w b (off + 5) x.needs := El.snd (El.snd (El.snd (El.snd (El.snd (El_route_Work_ h)))))

theorem El_route_Work {A : Nat → Prop} {w : World} {b off : Nat} {x : route_Work} (h : El A w b off x) : ∃ v1, At w b off [.int .i64 x.ticket, .int .i64 x.weight, .int .i64 x.urgency, .int .i64 x.since, .int .i64 x.former, v1] ∧ Sl A w v1 x.needs := by
  obtain ⟨h1, h2, cs, h3, h4⟩ := h
  obtain ⟨_, _, rfl, rfl, ⟨_, _, rfl, rfl, ⟨_, _, rfl, rfl, ⟨_, _, rfl, rfl, ⟨_, _, rfl, rfl, ⟨u1, rfl, g1⟩⟩⟩⟩⟩⟩ := h3
  exact ⟨u1, h4, g1⟩

instance : GoT route_Step := GoT.of (β := Int × Int × Bool) fun x => (x.after, x.lower, x.any)

instance : Flat route_Step := ⟨fun {A w A1 w1 cs x} h => Flat.flat (α := Int × Int × Bool) (x := (x.after, x.lower, x.any)) (A := A) (w := w) h⟩

theorem El_route_Step_ {A : Nat → Prop} {w : World} {b off : Nat} {x : route_Step} (h : El A w b off x) : El (α := Int × Int × Bool) A w b off (x.after, x.lower, x.any) := h

theorem El_route_Step_0 {A : Nat → Prop} {w : World} {b off : Nat} {x : route_Step} (h : El A w b off x) : El A w b (off + 0) x.after := El.fst (El_route_Step_ h)

theorem El_route_Step_1 {A : Nat → Prop} {w : World} {b off : Nat} {x : route_Step} (h : El A w b off x) : El A w b (off + 1) x.lower := El.fst (El.snd (El_route_Step_ h))

theorem El_route_Step_2 {A : Nat → Prop} {w : World} {b off : Nat} {x : route_Step} (h : El A w b off x) : El A w b (off + 2) x.any := El.snd (El.snd (El_route_Step_ h))

theorem El_route_Step {A : Nat → Prop} {w : World} {b off : Nat} {x : route_Step} (h : El A w b off x) : At w b off [.int .i64 x.after, .int .i64 x.lower, .bool x.any] ∧ True := by
  obtain ⟨h1, h2, cs, h3, h4⟩ := h
  obtain ⟨_, _, rfl, rfl, ⟨_, _, rfl, rfl, rfl⟩⟩ := h3
  exact ⟨h4, trivial⟩

set_option maxRecDepth 4000 in
set_option maxHeartbeats 4000000 in
theorem route_within_c (w : World) (n : Int) (low : Int) (high : Int) : Ret Tryd.prog 30 #[.int .i64 n, .int .i64 low, .int .i64 high] w fun v w' => v = .bool (route_within n low high) ∧ w = w' := by
  generalize hm : route_within n low high = r
  unfold route_within at hm
  refine enter Tryd.func30 rfl Tryd.ntmps30 rfl ?_
  refine C_seq ?_
  refine C_region ?_
  refine V_y (Y_assign rfl) rfl rfl rfl ?_
  refine V_to (fun _ _ => rfl) ?_
  refine C_seq ?_
  refine C_region ?_
  refine V_y (Y_move rfl) rfl rfl rfl ?_
  refine V_y (Y_move rfl) rfl rfl rfl ?_
  refine V_y (Y_geq rfl rfl) rfl rfl rfl ?_
  refine V_y (Y_move rfl) rfl rfl rfl ?_
  refine V_cut 4 (fun _ : Unit => [(14, .bool ((decide (low ≤ n)) && (decide (n ≤ high))))]) (fun _ w' => w = w') ?_ ?_
  · simp only [List.take, List.drop]
    rcases Bool.eq_false_or_eq_true (decide (low ≤ n)) with hc1 | hc1
    · refine V_ge rfl rfl rfl hc1 ?_
      refine V_y (Y_move rfl) rfl rfl rfl ?_
      refine V_ge rfl rfl rfl hc1 ?_
      refine V_y (Y_move rfl) rfl rfl rfl ?_
      refine V_ge rfl rfl rfl hc1 ?_
      refine V_y (Y_leq rfl rfl) rfl rfl rfl ?_
      refine V_y (Y_pick_te rfl hc1 rfl) rfl rfl rfl ?_
      exact V_end fun a ha => ⟨(), ha.sub ⟨(by rw [hc1]; rfl), trivial⟩, rfl⟩
    · refine V_gn rfl rfl rfl hc1 rfl rfl rfl ?_
      refine V_gn rfl rfl rfl hc1 rfl rfl rfl ?_
      refine V_gn rfl rfl rfl hc1 rfl rfl rfl ?_
      refine V_y (Y_pick_fe rfl hc1 rfl) rfl rfl rfl ?_
      exact V_end fun a ha => ⟨(), ha.sub ⟨(by rw [hc1]; rfl), trivial⟩, rfl⟩
  simp only [List.take, List.drop]
  rintro _ _ rfl
  refine V_y (Y_assign rfl) rfl rfl rfl ?_
  refine V_to (fun _ _ => rfl) ?_
  obtain rfl := hm
  refine C_ret ?_
  try simp only [↓inBlock_ret, ↓then_ret]
  exact retQ rfl (Res.one Tryd.results30 rfl) ⟨rfl, rfl⟩

set_option maxRecDepth 4000 in
set_option maxHeartbeats 4000000 in
theorem route_name_c (w : World) (s : ByteArray) {r : Bool} (hm : route_name s = some r) : Ret Tryd.prog 44 #[.string s] w fun v w' => v = .bool r ∧ w = w' := by
  unfold route_name at hm
  refine enter Tryd.func44 rfl Tryd.ntmps44 rfl ?_
  refine C_seq ?_
  refine C_region ?_
  refine V_y (Y_assign rfl) rfl rfl rfl ?_
  refine V_to (fun _ _ => rfl) ?_
  refine C_seq ?_
  refine C_seq ?_
  refine C_region ?_
  refine V_y (Y_move rfl) rfl rfl rfl ?_
  refine V_y (Y_lenStr rfl Tryd.underlying9 rfl) rfl rfl rfl ?_
  refine V_y (Y_move rfl) rfl rfl rfl ?_
  refine V_to (fun _ _ => rfl) ?_
  obtain ⟨o1, ho1, hm⟩ := Option.bind_eq_some_iff.1 hm
  refine C_cutG (ι := Int) (fun (s2 : Int) => [(0, .string s)]) (fun (s2 : Int) => fun w' => o1 = .fin s2 ∧ w = w') ?_ ?_
  · refine C_block ?_
    refine C_while ho1 (fun s8 a w' => ∃ i : Unit, Has ⟨41, [], none⟩ a ([(0, .string s), (6, .int .i64 (s.size : Int)), (7, .int .i64 s8)]) ∧ w = w') (fun a ha => ⟨(), ha.sub ⟨rfl, rfl, rfl, trivial⟩, rfl⟩) ?_
    rintro K s8 a _ ⟨_, ha30, rfl⟩ K16
    refine C_of ?_ ha30
    obtain ⟨x10, h11, h12⟩ := K16
    refine C_seq ?_
    refine C_region ?_
    refine V_y (Y_lss rfl rfl) rfl rfl rfl ?_
    refine V_to (fun _ _ => rfl) ?_
    refine C_seq ?_
    refine C_cond rfl (fun hc17 => ?_) (fun hc17 => ?_)
    · rw [if_pos hc17] at h11
      refine C_skip_to (fun _ _ => rfl) ?_
      refine C_seq ?_
      refine C_block ?_
      refine C_seq ?_
      refine C_region ?_
      refine V_y (Y_move rfl) rfl rfl rfl ?_
      refine V_y (Y_assign rfl) rfl rfl rfl ?_
      refine V_to (fun _ _ => rfl) ?_
      refine C_seq ?_
      refine C_region ?_
      refine V_y (Y_move rfl) rfl rfl rfl ?_
      refine V_y (Y_move rfl) rfl rfl rfl ?_
      obtain ⟨x18, hx18, h11⟩ := Option.bind_eq_some_iff.1 h11
      refine V_y (Y_indexS hx18 Tryd.underlying9 rfl rfl) rfl rfl rfl ?_
      refine V_y (Y_assign rfl) rfl rfl rfl ?_
      refine V_to (fun _ _ => rfl) ?_
      refine C_seq ?_
      refine C_region ?_
      refine V_y (Y_move rfl) rfl rfl rfl ?_
      refine V_y (Y_geq rfl rfl) rfl rfl rfl ?_
      refine V_y (Y_move rfl) rfl rfl rfl ?_
      refine V_cut 3 (fun _ : Unit => [(0, .string s), (4, .int .u8 (x18.toNat : Int)), (6, .int .i64 (s.size : Int)), (7, .int .i64 s8), (18, .bool ((decide ((97 : Int) ≤ (x18.toNat : Int))) && (decide ((x18.toNat : Int) ≤ 122))))]) (fun _ w' => w = w') ?_ ?_
      · simp only [List.take, List.drop]
        rcases Bool.eq_false_or_eq_true (decide ((97 : Int) ≤ (x18.toNat : Int))) with hc19 | hc19
        · refine V_ge rfl rfl rfl hc19 ?_
          refine V_y (Y_move rfl) rfl rfl rfl ?_
          refine V_ge rfl rfl rfl hc19 ?_
          refine V_y (Y_leq rfl rfl) rfl rfl rfl ?_
          refine V_y (Y_pick_te rfl hc19 rfl) rfl rfl rfl ?_
          exact V_end fun a ha => ⟨(), ha.sub ⟨rfl, rfl, rfl, rfl, (by rw [hc19]; rfl), trivial⟩, rfl⟩
        · refine V_gn rfl rfl rfl hc19 rfl rfl rfl ?_
          refine V_gn rfl rfl rfl hc19 rfl rfl rfl ?_
          refine V_y (Y_pick_fe rfl hc19 rfl) rfl rfl rfl ?_
          exact V_end fun a ha => ⟨(), ha.sub ⟨rfl, rfl, rfl, rfl, (by rw [hc19]; rfl), trivial⟩, rfl⟩
      simp only [List.take, List.drop]
      rintro _ _ rfl
      refine V_y (Y_not rfl) rfl rfl rfl ?_
      refine V_y (Y_move rfl) rfl rfl rfl ?_
      refine V_cut 8 (fun _ : Unit => [(0, .string s), (4, .int .u8 (x18.toNat : Int)), (6, .int .i64 (s.size : Int)), (7, .int .i64 s8), (28, .bool ((!((decide ((97 : Int) ≤ (x18.toNat : Int))) && (decide ((x18.toNat : Int) ≤ 122)))) && (!((decide ((48 : Int) ≤ (x18.toNat : Int))) && (decide ((x18.toNat : Int) ≤ 57))))))]) (fun _ w' => w = w') ?_ ?_
      · simp only [List.take, List.drop]
        rcases Bool.eq_false_or_eq_true (!((decide ((97 : Int) ≤ (x18.toNat : Int))) && (decide ((x18.toNat : Int) ≤ 122)))) with hc21 | hc21
        · refine V_ge rfl rfl rfl hc21 ?_
          refine V_y (Y_move rfl) rfl rfl rfl ?_
          refine V_ge rfl rfl rfl hc21 ?_
          refine V_y (Y_geq rfl rfl) rfl rfl rfl ?_
          refine V_ge rfl rfl rfl hc21 ?_
          refine V_y (Y_move rfl) rfl rfl rfl ?_
          refine V_cut 3 (fun _ : Unit => [(0, .string s), (4, .int .u8 (x18.toNat : Int)), (6, .int .i64 (s.size : Int)), (7, .int .i64 s8), (20, .bool (!((decide ((97 : Int) ≤ (x18.toNat : Int))) && (decide ((x18.toNat : Int) ≤ 122))))), (26, .bool ((decide ((48 : Int) ≤ (x18.toNat : Int))) && (decide ((x18.toNat : Int) ≤ 57))))]) (fun _ w' => w = w') ?_ ?_
          · simp only [List.take, List.drop]
            rcases Bool.eq_false_or_eq_true (decide ((48 : Int) ≤ (x18.toNat : Int))) with hc23 | hc23
            · refine V_ge rfl rfl rfl hc23 ?_
              refine V_y (Y_move rfl) rfl rfl rfl ?_
              refine V_ge rfl rfl rfl hc23 ?_
              refine V_y (Y_leq rfl rfl) rfl rfl rfl ?_
              refine V_ge rfl rfl rfl hc21 ?_
              refine V_y (Y_pick_te rfl hc23 rfl) rfl rfl rfl ?_
              exact V_end fun a ha => ⟨(), ha.sub ⟨rfl, rfl, rfl, rfl, rfl, (by rw [hc23]; rfl), trivial⟩, rfl⟩
            · refine V_gn rfl rfl rfl hc23 rfl rfl rfl ?_
              refine V_gn rfl rfl rfl hc23 rfl rfl rfl ?_
              refine V_ge rfl rfl rfl hc21 ?_
              refine V_y (Y_pick_fe rfl hc23 rfl) rfl rfl rfl ?_
              exact V_end fun a ha => ⟨(), ha.sub ⟨rfl, rfl, rfl, rfl, rfl, (by rw [hc23]; rfl), trivial⟩, rfl⟩
          simp only [List.take, List.drop]
          rintro _ _ rfl
          refine V_ge rfl rfl rfl hc21 ?_
          refine V_y (Y_not rfl) rfl rfl rfl ?_
          refine V_y (Y_pick_te rfl hc21 rfl) rfl rfl rfl ?_
          exact V_end fun a ha => ⟨(), ha.sub ⟨rfl, rfl, rfl, rfl, (by rw [hc21]; rfl), trivial⟩, rfl⟩
        · refine V_gn rfl rfl rfl hc21 rfl rfl rfl ?_
          refine V_gn rfl rfl rfl hc21 rfl rfl rfl ?_
          refine V_gn rfl rfl rfl hc21 rfl rfl rfl ?_
          refine V_gu rfl rfl rfl rfl rfl ?_
          refine V_gu rfl rfl rfl rfl rfl ?_
          refine V_gn rfl rfl rfl hc21 rfl rfl rfl ?_
          refine V_gn rfl rfl rfl hc21 rfl rfl rfl ?_
          refine V_y (Y_pick_fe rfl hc21 rfl) rfl rfl rfl ?_
          exact V_end fun a ha => ⟨(), ha.sub ⟨rfl, rfl, rfl, rfl, (by rw [hc21]; rfl), trivial⟩, rfl⟩
      simp only [List.take, List.drop]
      rintro _ _ rfl
      refine V_y (Y_move rfl) rfl rfl rfl ?_
      refine V_cut 3 (fun _ : Unit => [(0, .string s), (6, .int .i64 (s.size : Int)), (7, .int .i64 s8), (32, .bool (((!((decide ((97 : Int) ≤ (x18.toNat : Int))) && (decide ((x18.toNat : Int) ≤ 122)))) && (!((decide ((48 : Int) ≤ (x18.toNat : Int))) && (decide ((x18.toNat : Int) ≤ 57))))) && ((x18.toNat : Int) != 95)))]) (fun _ w' => w = w') ?_ ?_
      · simp only [List.take, List.drop]
        rcases Bool.eq_false_or_eq_true (((!((decide ((97 : Int) ≤ (x18.toNat : Int))) && (decide ((x18.toNat : Int) ≤ 122)))) && (!((decide ((48 : Int) ≤ (x18.toNat : Int))) && (decide ((x18.toNat : Int) ≤ 57)))))) with hc25 | hc25
        · refine V_ge rfl rfl rfl hc25 ?_
          refine V_y (Y_move rfl) rfl rfl rfl ?_
          refine V_ge rfl rfl rfl hc25 ?_
          refine V_y (Y_neq rfl rfl) rfl rfl rfl ?_
          refine V_y (Y_pick_te rfl hc25 rfl) rfl rfl rfl ?_
          exact V_end fun a ha => ⟨(), ha.sub ⟨rfl, rfl, rfl, (by rw [hc25]; rfl), trivial⟩, rfl⟩
        · refine V_gn rfl rfl rfl hc25 rfl rfl rfl ?_
          refine V_gn rfl rfl rfl hc25 rfl rfl rfl ?_
          refine V_y (Y_pick_fe rfl hc25 rfl) rfl rfl rfl ?_
          exact V_end fun a ha => ⟨(), ha.sub ⟨rfl, rfl, rfl, (by rw [hc25]; rfl), trivial⟩, rfl⟩
      simp only [List.take, List.drop]
      rintro _ _ rfl
      refine V_to (fun _ _ => rfl) ?_
      refine C_cond rfl (fun hc27 => ?_) (fun hc27 => ?_)
      · rw [if_pos hc27] at h11
        refine C_seq ?_
        refine C_region ?_
        refine V_y (Y_assign rfl) rfl rfl rfl ?_
        refine V_to (fun _ _ => rfl) ?_
        obtain rfl := Option.some.inj h11
        obtain rfl := (h12 : Lp.rt _ = _)
        rw [Lp.andThen_rt] at hm
        obtain rfl := Option.some.inj hm
        refine C_ret ?_
        try simp only [↓inBlock_ret, ↓then_ret]
        exact retQ rfl (Res.one Tryd.results44 rfl) ⟨rfl, rfl⟩
      · rw [if_neg (nt hc27)] at h11
        refine C_skip_to (fun _ _ => rfl) ?_
        refine C_region ?_
        refine V_y (Y_addI rfl rfl) rfl rfl rfl ?_
        refine V_y (Y_move rfl) rfl rfl rfl ?_
        obtain rfl := Option.some.inj h11
        refine V_end (fun a ha28 => ?_)
        exact ⟨w64 (s8 + 1), h12, ⟨(), ha28.sub ⟨rfl, rfl, rfl, trivial⟩, rfl⟩⟩
    · rw [if_neg (nt hc17)] at h11
      obtain rfl := Option.some.inj h11
      refine C_exit (fun a ha29 => ?_)
      exact ⟨s8, ha29.sub ⟨rfl, trivial⟩, ⟨h12.symm, rfl⟩⟩
  rintro s2 _ ⟨rfl, rfl⟩ a ha7
  rw [Lp.andThen_fin] at hm
  refine C_at (n := ⟨41, [], none⟩) (fun _ _ => rfl) ?_ ha7
  refine C_seq ?_
  refine C_region ?_
  refine V_y (Y_move rfl) rfl rfl rfl ?_
  refine V_y (Y_sneq rfl rfl) rfl rfl rfl ?_
  refine V_y (Y_move rfl) rfl rfl rfl ?_
  refine V_cut 4 (fun _ : Unit => [(40, .bool ((!(strEq s (⟨#[]⟩ : ByteArray))) && (decide ((s.size : Int) ≤ 20))))]) (fun _ w' => w = w') ?_ ?_
  · simp only [List.take, List.drop]
    rcases Bool.eq_false_or_eq_true (!(strEq s (⟨#[]⟩ : ByteArray))) with hc31 | hc31
    · refine V_ge rfl rfl rfl hc31 ?_
      refine V_y (Y_move rfl) rfl rfl rfl ?_
      refine V_ge rfl rfl rfl hc31 ?_
      refine V_y (Y_lenStr rfl Tryd.underlying9 rfl) rfl rfl rfl ?_
      refine V_ge rfl rfl rfl hc31 ?_
      refine V_y (Y_leq rfl rfl) rfl rfl rfl ?_
      refine V_y (Y_pick_te rfl hc31 rfl) rfl rfl rfl ?_
      exact V_end fun a ha => ⟨(), ha.sub ⟨(by rw [hc31]; rfl), trivial⟩, rfl⟩
    · refine V_gn rfl rfl rfl hc31 rfl rfl rfl ?_
      refine V_gn rfl rfl rfl hc31 rfl rfl rfl ?_
      refine V_gn rfl rfl rfl hc31 rfl rfl rfl ?_
      refine V_y (Y_pick_fe rfl hc31 rfl) rfl rfl rfl ?_
      exact V_end fun a ha => ⟨(), ha.sub ⟨(by rw [hc31]; rfl), trivial⟩, rfl⟩
  simp only [List.take, List.drop]
  rintro _ _ rfl
  refine V_y (Y_assign rfl) rfl rfl rfl ?_
  refine V_to (fun _ _ => rfl) ?_
  obtain rfl := Option.some.inj hm
  refine C_ret ?_
  try simp only [↓inBlock_ret, ↓then_ret]
  exact retQ rfl (Res.one Tryd.results44 rfl) ⟨rfl, rfl⟩

set_option maxRecDepth 4000 in
set_option maxHeartbeats 4000000 in
theorem route_checkSkills_c (w : World) {A : Nat → Prop} (hA : ∀ b, w.heap.size ≤ b → A b) (l : (List route_Skill)) (v_l : Value) (h_l : Sl A w v_l l) {r : Int} (hm : route_checkSkills l = some r) : Ret Tryd.prog 31 #[v_l] w fun v w' => v = .int .i64 r ∧ Kp w w' := by
  unfold route_checkSkills at hm
  refine enter Tryd.func31 rfl Tryd.ntmps31 rfl ?_
  have hA0 := hA
  have hB := Nat.le_refl w.heap.size
  have hK : Tr w.heap.size A w A w := Tr.refl hA
  have hH : Hp w.heap.size A w [] := Hp.nil
  refine C_seq ?_
  refine C_region ?_
  refine V_y (Y_assign rfl) rfl rfl rfl ?_
  refine V_to (fun _ _ => rfl) ?_
  refine C_seq ?_
  refine C_seq ?_
  refine C_region ?_
  refine V_y (Y_move rfl) rfl rfl rfl ?_
  refine V_y (Y_lenSl h_l rfl Tryd.underlying67 rfl) rfl rfl rfl ?_
  refine V_y (Y_gtr rfl rfl) rfl rfl rfl ?_
  refine V_to (fun _ _ => rfl) ?_
  refine C_cond rfl (fun hc3 => ?_) (fun hc3 => ?_)
  · rw [if_pos hc3] at hm
    refine C_seq ?_
    refine C_region ?_
    refine V_y (Y_assign rfl) rfl rfl rfl ?_
    refine V_to (fun _ _ => rfl) ?_
    obtain rfl := Option.some.inj hm
    refine C_ret ?_
    try simp only [↓inBlock_ret, ↓then_ret]
    exact retQ rfl (Res.one Tryd.results31 rfl) ⟨rfl, hK.kp⟩
  · rw [if_neg (nt hc3)] at hm
    refine C_skip_to (fun _ _ => rfl) ?_
    refine C_seq ?_
    refine C_seq ?_
    refine C_region ?_
    refine V_y (Y_move rfl) rfl rfl rfl ?_
    refine V_y (Y_lenSl h_l rfl Tryd.underlying67 rfl) rfl rfl rfl ?_
    refine V_y (Y_move rfl) rfl rfl rfl ?_
    refine V_to (fun _ _ => rfl) ?_
    have hn25 := Sl.le h_l
    obtain ⟨o4, ho4, hm⟩ := Option.bind_eq_some_iff.1 hm
    refine C_cutG (ι := (Unit × (Nat → Prop))) (fun ⟨s5, A12⟩ => []) (fun ⟨s5, A12⟩ => fun w' => o4 = .fin s5 ∧ Hp w.heap.size A12 w' ([]) ∧ Tr w.heap.size A w A12 w') ?_ ?_
    · refine C_block ?_
      refine C_range ho4 (fun k7 _ a w' => ∃ i : (Nat → Prop), Has ⟨40, [], none⟩ a ([(0, v_l), (8, v_l), (9, .int .i64 (l.length : Int)), (10, .int .i64 (k7 : Int))]) ∧ Hp w.heap.size i w' ([]) ∧ Tr w.heap.size A w i w') (fun a ha => ⟨A, ha.sub ⟨rfl, rfl, rfl, rfl, trivial⟩, ⟨hH, Tr.refl hA⟩⟩) ?_
      rintro K k7 _ a w15 ⟨A16, ha59, hH17, hr6⟩ hle21 K24 h23
      refine C_of ?_ ha59
      replace h_l := Sl.tr h_l hr6
      replace hK := Tr.trans hK hr6
      replace hB := Nat.le_trans hB hr6.ex.size
      replace hA := hr6.new
      replace hH : Hp w.heap.size A16 w15 ([]) := hH17
      refine C_seq (C_region (V_y (Y_lss rfl rfl) rfl rfl rfl (V_to (fun _ _ => rfl) ?_)))
      refine C_seq ?_
      refine C_cond rfl (fun hc26 => ?_) (fun hc26 => ?_)
      · have hlt22 := lt_of_dec hc26
        obtain ⟨x18, h19, h20⟩ := K24 hlt22
        refine C_skip_to (fun _ _ => rfl) ?_
        refine C_seq ?_
        refine C_block ?_
        refine C_seq ?_
        refine C_region ?_
        refine V_y (Y_move rfl) rfl rfl rfl ?_
        obtain ⟨x27, hx27, h19⟩ := Option.bind_eq_some_iff.1 h19
        refine V_indexAddr h_l hx27 Tryd.underlying67 Tryd.sizeOf72 rfl rfl rfl ?_
        intro b28 o29 h30
        obtain ⟨h31, _⟩ := El_route_Skill h30
        refine V_y (Y_loadA h31 Tryd.isAgg72 Tryd.sizeOf72 rfl) rfl rfl rfl ?_
        refine V_alloc Tryd.zeroValue72 rfl ?_
        intro b32 w33 h34
        refine V_y (Y_assign rfl) rfl rfl rfl ?_
        refine V_storeNew h34 Tryd.sizeOf72 rfl rfl rfl rfl (by exact (List.forall_mem_cons.2 ⟨rfl, (List.forall_mem_cons.2 ⟨rfl, (fun _ h => nomatch h)⟩)⟩)) ?_
        intro w35 h36
        have hk38 := h36.kp
        have h37 : El (α := route_Skill) A16 w35 b32 0 x27 := h36.el hA ⟨[.string x27.name], _, rfl, rfl, rfl⟩
        have ht39 := Kp.tr hk38 hA hB
        replace hH := Hp.kp hH hk38
        replace h_l := Sl.tr h_l ht39
        replace h30 := El.tr h30 ht39
        replace hK := Tr.trans hK ht39
        replace hr6 := Tr.trans hr6 ht39
        replace hB := Nat.le_trans hB ht39.ex.size
        replace hA := ht39.new
        refine V_to (fun _ _ => rfl) ?_
        refine C_block ?_
        refine C_seq ?_
        refine C_region ?_
        have h40 := El_route_Skill_0 h37
        refine V_y (Y_fieldAddr Tryd.underlying72 rfl Tryd.sizeOf9 (by decide) rfl) rfl rfl rfl ?_
        refine V_y (Y_load (El.str h40) Tryd.isAgg9 rfl) rfl rfl rfl ?_
        obtain ⟨x41, hx41, h19⟩ := Option.bind_eq_some_iff.1 h19
        refine V_call Tryd.call44 rfl rfl rfl rfl (route_name_c w35 x27.name hx41) ?_
        rintro _ _ ⟨rfl, rfl⟩
        refine V_y (Y_not rfl) rfl rfl rfl ?_
        refine V_y (Y_assign rfl) rfl rfl rfl ?_
        refine V_to (fun _ _ => rfl) ?_
        refine C_cond rfl (fun hc42 => ?_) (fun hc42 => ?_)
        · rw [if_pos hc42] at h19
          refine C_seq ?_
          refine C_region ?_
          refine V_y (Y_assign rfl) rfl rfl rfl ?_
          refine V_to (fun _ _ => rfl) ?_
          obtain rfl := Option.some.inj h19
          obtain rfl := (h20 : Lp.rt _ = _)
          rw [Lp.andThen_rt] at hm
          obtain rfl := Option.some.inj hm
          refine C_ret ?_
          try simp only [↓inBlock_ret, ↓then_ret]
          exact retQ rfl (Res.one Tryd.results31 rfl) ⟨rfl, hK.kp⟩
        · rw [if_neg (nt hc42)] at h19
          refine C_seq ?_
          refine C_region_q Tryd_mixed (by kernel_rfl) ?_
          refine VQ_y (fun w' hw' => Y_move rfl) rfl rfl rfl ?_
          refine VQ_y (fun w' hw' => Y_gtr rfl rfl) rfl rfl rfl ?_
          refine VQ_y (fun w' hw' => Y_move rfl) rfl rfl rfl ?_
          obtain ⟨s44, hs44, h19⟩ := Option.bind_eq_some_iff.1 h19
          refine VQ_cut 10 (fun _ : Unit => [(0, v_l), (4, .pointer (some ⟨b32, 0, none⟩)), (8, v_l), (9, .int .i64 (l.length : Int)), (10, .int .i64 (k7 : Int)), (33, .bool s44)]) (fun _ => True) ?_ ?_
          · simp only [List.take, List.drop]
            rcases Bool.eq_false_or_eq_true (decide ((0 : Int) < (k7 : Int))) with hc43 | hc43
            · rw [if_pos hc43] at hs44
              refine VQ_ge rfl rfl rfl hc43 ?_
              have h45 := El_route_Skill_0 h37
              refine VQ_y (fun w' hw' => Y_fieldAddr Tryd.underlying72 rfl Tryd.sizeOf9 (by decide) rfl) rfl rfl rfl ?_
              refine VQ_ge rfl rfl rfl hc43 ?_
              refine VQ_y (fun w' hw' => Y_load (El.str (El.kp h45 hw')) Tryd.isAgg9 rfl) rfl rfl rfl ?_
              refine VQ_ge rfl rfl rfl hc43 ?_
              refine VQ_y (fun w' hw' => Y_move rfl) rfl rfl rfl ?_
              refine VQ_ge rfl rfl rfl hc43 ?_
              refine VQ_y (fun w' hw' => Y_move rfl) rfl rfl rfl ?_
              refine VQ_ge rfl rfl rfl hc43 ?_
              refine VQ_y (fun w' hw' => Y_subI rfl rfl) rfl rfl rfl ?_
              refine VQ_ge rfl rfl rfl hc43 ?_
              obtain ⟨x46, hx46, hs44⟩ := Option.bind_eq_some_iff.1 hs44
              refine VQ_indexAddr h_l hx46 Tryd.underlying67 Tryd.sizeOf72 rfl rfl rfl ?_
              intro b47 o48 h49
              refine VQ_ge rfl rfl rfl hc43 ?_
              have h50 := El_route_Skill_0 h49
              refine VQ_y (fun w' hw' => Y_fieldAddr Tryd.underlying72 rfl Tryd.sizeOf9 (by decide) rfl) rfl rfl rfl ?_
              refine VQ_ge rfl rfl rfl hc43 ?_
              refine VQ_y (fun w' hw' => Y_load (El.str (El.kp h50 hw')) Tryd.isAgg9 rfl) rfl rfl rfl ?_
              refine VQ_ge rfl rfl rfl hc43 ?_
              refine VQ_y (fun w' hw' => Y_sleq rfl rfl) rfl rfl rfl ?_
              refine VQ_y (fun _ _ => Y_pick_te rfl hc43 rfl) rfl rfl rfl ?_
              obtain rfl := Option.some.inj hs44
              exact VQ_end fun a ha => ⟨(), ha.sub ⟨rfl, rfl, rfl, rfl, rfl, rfl, trivial⟩, trivial⟩
            · rw [if_neg (nt hc43)] at hs44
              refine VQ_gn rfl rfl rfl hc43 rfl rfl rfl ?_
              refine VQ_gn rfl rfl rfl hc43 rfl rfl rfl ?_
              refine VQ_gn rfl rfl rfl hc43 rfl rfl rfl ?_
              refine VQ_gn rfl rfl rfl hc43 rfl rfl rfl ?_
              refine VQ_gn rfl rfl rfl hc43 rfl rfl rfl ?_
              refine VQ_gn rfl rfl rfl hc43 rfl rfl rfl ?_
              refine VQ_gn rfl rfl rfl hc43 rfl rfl rfl ?_
              refine VQ_gn rfl rfl rfl hc43 rfl rfl rfl ?_
              refine VQ_gn rfl rfl rfl hc43 rfl rfl rfl ?_
              refine VQ_y (fun _ _ => Y_pick_fe rfl hc43 rfl) rfl rfl rfl ?_
              obtain rfl := Option.some.inj hs44
              exact VQ_end fun a ha => ⟨(), ha.sub ⟨rfl, rfl, rfl, rfl, rfl, rfl, trivial⟩, trivial⟩
          simp only [List.take, List.drop]
          rintro _ _
          refine VQ_y (fun w' hw' => Y_assign rfl) rfl rfl rfl ?_
          refine VQ_to (fun _ _ => rfl) (fun w51 hk52 => ?_)
          have ht53 := Kp.tr hk52 hA hB
          replace hH := Hp.kp hH hk52
          replace h_l := Sl.tr h_l ht53
          replace h37 := El.tr h37 ht53
          replace hK := Tr.trans hK ht53
          replace hr6 := Tr.trans hr6 ht53
          replace hB := Nat.le_trans hB ht53.ex.size
          replace hA := ht53.new
          refine C_cond rfl (fun hc54 => ?_) (fun hc54 => ?_)
          · rw [if_pos hc54] at h19
            refine C_seq ?_
            refine C_region ?_
            refine V_y (Y_assign rfl) rfl rfl rfl ?_
            refine V_to (fun _ _ => rfl) ?_
            obtain rfl := Option.some.inj h19
            obtain rfl := (h20 : Lp.rt _ = _)
            rw [Lp.andThen_rt] at hm
            obtain rfl := Option.some.inj hm
            refine C_ret ?_
            try simp only [↓inBlock_ret, ↓then_ret]
            exact retQ rfl (Res.one Tryd.results31 rfl) ⟨rfl, hK.kp⟩
          · rw [if_neg (nt hc54)] at h19
            refine C_seq ?_
            refine C_region ?_
            have h55 := El_route_Skill_1 h37
            refine V_y (Y_fieldAddr Tryd.underlying72 rfl Tryd.sizeOf3 (by decide) rfl) rfl rfl rfl ?_
            refine V_y (Y_load (El.int h55) Tryd.isAgg3 rfl) rfl rfl rfl ?_
            refine V_call Tryd.call30 rfl rfl rfl rfl (route_within_c w51 x27.rank 1 9) ?_
            rintro _ _ ⟨rfl, rfl⟩
            refine V_y (Y_not rfl) rfl rfl rfl ?_
            refine V_y (Y_assign rfl) rfl rfl rfl ?_
            refine V_to (fun _ _ => rfl) ?_
            refine C_cond rfl (fun hc56 => ?_) (fun hc56 => ?_)
            · rw [if_pos hc56] at h19
              refine C_seq ?_
              refine C_region ?_
              refine V_y (Y_assign rfl) rfl rfl rfl ?_
              refine V_to (fun _ _ => rfl) ?_
              obtain rfl := Option.some.inj h19
              obtain rfl := (h20 : Lp.rt _ = _)
              rw [Lp.andThen_rt] at hm
              obtain rfl := Option.some.inj hm
              refine C_ret ?_
              try simp only [↓inBlock_ret, ↓then_ret]
              exact retQ rfl (Res.one Tryd.results31 rfl) ⟨rfl, hK.kp⟩
            · rw [if_neg (nt hc56)] at h19
              refine C_skip_to (fun _ _ => rfl) ?_
              refine C_region ?_
              refine V_y (Y_addI rfl rfl) rfl rfl rfl ?_
              refine V_y (Y_move rfl) rfl rfl rfl ?_
              obtain rfl := Option.some.inj h19
              refine V_end (fun a ha57 => ?_)
              exact ⟨(), hlt22, h20, ⟨A16, ha57.sub ⟨rfl, rfl, rfl, (congrArg (fun z => some (Value.int .i64 z)) (w64_succ hlt22 hn25)), trivial⟩, ⟨hH, hr6⟩⟩⟩
      · refine C_exit (fun a ha58 => ?_)
        exact ⟨((), A16), ha58.sub trivial, ⟨(h23 (eq_of_dec hle21 hc26)).symm, hH, hr6⟩⟩
    rintro ⟨s5, A12⟩ w9 ⟨rfl, hH13, hk10⟩ a ha11
    rw [Lp.andThen_fin] at hm
    replace hK := Tr.trans hK hk10
    replace hB := Nat.le_trans hB hk10.ex.size
    replace hA := hk10.new
    replace hH : Hp w.heap.size A12 w9 ([]) := hH13
    refine C_at (n := ⟨40, [], none⟩) (fun _ _ => rfl) ?_ ha11
    refine C_seq ?_
    refine C_region ?_
    refine V_y (Y_assign rfl) rfl rfl rfl ?_
    refine V_to (fun _ _ => rfl) ?_
    obtain rfl := Option.some.inj hm
    refine C_ret ?_
    try simp only [↓inBlock_ret, ↓then_ret]
    exact retQ rfl (Res.one Tryd.results31 rfl) ⟨rfl, hK.kp⟩

set_option maxRecDepth 4000 in
set_option maxHeartbeats 4000000 in
theorem route_CheckPeople_c (w : World) {A : Nat → Prop} (hA : ∀ b, w.heap.size ≤ b → A b) (l : (List route_Person)) (v_l : Value) (h_l : Sl A w v_l l) {r : Int} (hm : route_CheckPeople l = some r) : Ret Tryd.prog 11 #[v_l] w fun v w' => v = .int .i64 r ∧ Kp w w' := by
  unfold route_CheckPeople at hm
  refine enter Tryd.func11 rfl Tryd.ntmps11 rfl ?_
  have hA0 := hA
  have hB := Nat.le_refl w.heap.size
  have hK : Tr w.heap.size A w A w := Tr.refl hA
  have hH : Hp w.heap.size A w [] := Hp.nil
  refine C_seq ?_
  refine C_region ?_
  refine V_y (Y_assign rfl) rfl rfl rfl ?_
  refine V_to (fun _ _ => rfl) ?_
  refine C_seq ?_
  refine C_seq ?_
  refine C_region ?_
  refine V_y (Y_move rfl) rfl rfl rfl ?_
  refine V_y (Y_lenSl h_l rfl Tryd.underlying34 rfl) rfl rfl rfl ?_
  refine V_y (Y_gtr rfl rfl) rfl rfl rfl ?_
  refine V_to (fun _ _ => rfl) ?_
  refine C_cond rfl (fun hc3 => ?_) (fun hc3 => ?_)
  · rw [if_pos hc3] at hm
    refine C_seq ?_
    refine C_region ?_
    refine V_y (Y_assign rfl) rfl rfl rfl ?_
    refine V_to (fun _ _ => rfl) ?_
    obtain rfl := Option.some.inj hm
    refine C_ret ?_
    try simp only [↓inBlock_ret, ↓then_ret]
    exact retQ rfl (Res.one Tryd.results11 rfl) ⟨rfl, hK.kp⟩
  · rw [if_neg (nt hc3)] at hm
    refine C_skip_to (fun _ _ => rfl) ?_
    refine C_seq ?_
    refine C_seq ?_
    refine C_region ?_
    refine V_y (Y_move rfl) rfl rfl rfl ?_
    refine V_y (Y_lenSl h_l rfl Tryd.underlying34 rfl) rfl rfl rfl ?_
    refine V_y (Y_move rfl) rfl rfl rfl ?_
    refine V_to (fun _ _ => rfl) ?_
    have hn25 := Sl.le h_l
    obtain ⟨o4, ho4, hm⟩ := Option.bind_eq_some_iff.1 hm
    refine C_cutG (ι := (Unit × (Nat → Prop))) (fun ⟨s5, A12⟩ => []) (fun ⟨s5, A12⟩ => fun w' => o4 = .fin s5 ∧ Hp w.heap.size A12 w' ([]) ∧ Tr w.heap.size A w A12 w') ?_ ?_
    · refine C_block ?_
      refine C_range ho4 (fun k7 _ a w' => ∃ i : (Nat → Prop), Has ⟨53, [], none⟩ a ([(0, v_l), (9, v_l), (10, .int .i64 (l.length : Int)), (11, .int .i64 (k7 : Int))]) ∧ Hp w.heap.size i w' ([]) ∧ Tr w.heap.size A w i w') (fun a ha => ⟨A, ha.sub ⟨rfl, rfl, rfl, rfl, trivial⟩, ⟨hH, Tr.refl hA⟩⟩) ?_
      rintro K k7 _ a w15 ⟨A16, ha75, hH17, hr6⟩ hle21 K24 h23
      refine C_of ?_ ha75
      replace h_l := Sl.tr h_l hr6
      replace hK := Tr.trans hK hr6
      replace hB := Nat.le_trans hB hr6.ex.size
      replace hA := hr6.new
      replace hH : Hp w.heap.size A16 w15 ([]) := hH17
      refine C_seq (C_region (V_y (Y_lss rfl rfl) rfl rfl rfl (V_to (fun _ _ => rfl) ?_)))
      refine C_seq ?_
      refine C_cond rfl (fun hc26 => ?_) (fun hc26 => ?_)
      · have hlt22 := lt_of_dec hc26
        obtain ⟨x18, h19, h20⟩ := K24 hlt22
        refine C_skip_to (fun _ _ => rfl) ?_
        refine C_seq ?_
        refine C_block ?_
        refine C_seq ?_
        refine C_region ?_
        refine V_y (Y_move rfl) rfl rfl rfl ?_
        obtain ⟨x27, hx27, h19⟩ := Option.bind_eq_some_iff.1 h19
        refine V_indexAddr h_l hx27 Tryd.underlying34 Tryd.sizeOf69 rfl rfl rfl ?_
        intro b28 o29 h30
        obtain ⟨v31, h33, h32⟩ := El_route_Person h30
        refine V_y (Y_loadA h33 Tryd.isAgg69 Tryd.sizeOf69 rfl) rfl rfl rfl ?_
        refine V_alloc Tryd.zeroValue69 rfl ?_
        intro b34 w35 h36
        refine V_y (Y_assign rfl) rfl rfl rfl ?_
        have h41 : (v31).oneCell' = true := by obtain ⟨_, _, e, _⟩ := Sl.form h32; rw [e]; rfl
        refine V_storeNew h36 Tryd.sizeOf69 rfl rfl rfl rfl (by exact (List.forall_mem_cons.2 ⟨rfl, (List.forall_mem_cons.2 ⟨rfl, (List.forall_mem_cons.2 ⟨rfl, (List.forall_mem_cons.2 ⟨h41, (fun _ h => nomatch h)⟩)⟩)⟩)⟩)) ?_
        intro w37 h38
        have hk43 := h38.kp
        have h42 : El (α := route_Person) A16 w37 b34 0 x27 := h38.el hA ⟨[.int .i64 x27.no], _, rfl, rfl, ⟨[.int .i64 x27.capacity], _, rfl, rfl, ⟨[.int .i64 x27.calendar], _, rfl, rfl, ⟨_, rfl, h32⟩⟩⟩⟩
        have ht44 := Kp.tr hk43 hA hB
        replace hH := Hp.kp hH hk43
        replace h_l := Sl.tr h_l ht44
        replace h30 := El.tr h30 ht44
        replace h32 := Sl.tr h32 ht44
        replace hK := Tr.trans hK ht44
        replace hr6 := Tr.trans hr6 ht44
        replace hB := Nat.le_trans hB ht44.ex.size
        replace hA := ht44.new
        refine V_to (fun _ _ => rfl) ?_
        refine C_seq ?_
        refine C_block ?_
        refine C_seq ?_
        refine C_region ?_
        have h45 := El_route_Person_0 h42
        refine V_y (Y_fieldAddr Tryd.underlying69 rfl Tryd.sizeOf3 (by decide) rfl) rfl rfl rfl ?_
        refine V_y (Y_load (El.int h45) Tryd.isAgg3 rfl) rfl rfl rfl ?_
        refine V_call Tryd.call30 rfl rfl rfl rfl (route_within_c w37 x27.no 1 40) ?_
        rintro _ _ ⟨rfl, rfl⟩
        refine V_y (Y_not rfl) rfl rfl rfl ?_
        refine V_y (Y_assign rfl) rfl rfl rfl ?_
        refine V_to (fun _ _ => rfl) ?_
        refine C_cond rfl (fun hc46 => ?_) (fun hc46 => ?_)
        · rw [if_pos hc46] at h19
          refine C_seq ?_
          refine C_region ?_
          refine V_y (Y_assign rfl) rfl rfl rfl ?_
          refine V_to (fun _ _ => rfl) ?_
          obtain rfl := Option.some.inj h19
          obtain rfl := (h20 : Lp.rt _ = _)
          rw [Lp.andThen_rt] at hm
          obtain rfl := Option.some.inj hm
          refine C_ret ?_
          try simp only [↓inBlock_ret, ↓then_ret]
          exact retQ rfl (Res.one Tryd.results11 rfl) ⟨rfl, hK.kp⟩
        · rw [if_neg (nt hc46)] at h19
          refine C_seq ?_
          refine C_region_q Tryd_mixed (by kernel_rfl) ?_
          refine VQ_y (fun w' hw' => Y_move rfl) rfl rfl rfl ?_
          refine VQ_y (fun w' hw' => Y_gtr rfl rfl) rfl rfl rfl ?_
          refine VQ_y (fun w' hw' => Y_move rfl) rfl rfl rfl ?_
          obtain ⟨s48, hs48, h19⟩ := Option.bind_eq_some_iff.1 h19
          refine VQ_cut 10 (fun _ : Unit => [(0, v_l), (4, .pointer (some ⟨b34, 0, none⟩)), (9, v_l), (10, .int .i64 (l.length : Int)), (11, .int .i64 (k7 : Int)), (34, .bool s48)]) (fun _ => True) ?_ ?_
          · simp only [List.take, List.drop]
            rcases Bool.eq_false_or_eq_true (decide ((0 : Int) < (k7 : Int))) with hc47 | hc47
            · rw [if_pos hc47] at hs48
              refine VQ_ge rfl rfl rfl hc47 ?_
              have h49 := El_route_Person_0 h42
              refine VQ_y (fun w' hw' => Y_fieldAddr Tryd.underlying69 rfl Tryd.sizeOf3 (by decide) rfl) rfl rfl rfl ?_
              refine VQ_ge rfl rfl rfl hc47 ?_
              refine VQ_y (fun w' hw' => Y_load (El.int (El.kp h49 hw')) Tryd.isAgg3 rfl) rfl rfl rfl ?_
              refine VQ_ge rfl rfl rfl hc47 ?_
              refine VQ_y (fun w' hw' => Y_move rfl) rfl rfl rfl ?_
              refine VQ_ge rfl rfl rfl hc47 ?_
              refine VQ_y (fun w' hw' => Y_move rfl) rfl rfl rfl ?_
              refine VQ_ge rfl rfl rfl hc47 ?_
              refine VQ_y (fun w' hw' => Y_subI rfl rfl) rfl rfl rfl ?_
              refine VQ_ge rfl rfl rfl hc47 ?_
              obtain ⟨x50, hx50, hs48⟩ := Option.bind_eq_some_iff.1 hs48
              refine VQ_indexAddr h_l hx50 Tryd.underlying34 Tryd.sizeOf69 rfl rfl rfl ?_
              intro b51 o52 h53
              refine VQ_ge rfl rfl rfl hc47 ?_
              have h54 := El_route_Person_0 h53
              refine VQ_y (fun w' hw' => Y_fieldAddr Tryd.underlying69 rfl Tryd.sizeOf3 (by decide) rfl) rfl rfl rfl ?_
              refine VQ_ge rfl rfl rfl hc47 ?_
              refine VQ_y (fun w' hw' => Y_load (El.int (El.kp h54 hw')) Tryd.isAgg3 rfl) rfl rfl rfl ?_
              refine VQ_ge rfl rfl rfl hc47 ?_
              refine VQ_y (fun w' hw' => Y_leq rfl rfl) rfl rfl rfl ?_
              refine VQ_y (fun _ _ => Y_pick_te rfl hc47 rfl) rfl rfl rfl ?_
              obtain rfl := Option.some.inj hs48
              exact VQ_end fun a ha => ⟨(), ha.sub ⟨rfl, rfl, rfl, rfl, rfl, rfl, trivial⟩, trivial⟩
            · rw [if_neg (nt hc47)] at hs48
              refine VQ_gn rfl rfl rfl hc47 rfl rfl rfl ?_
              refine VQ_gn rfl rfl rfl hc47 rfl rfl rfl ?_
              refine VQ_gn rfl rfl rfl hc47 rfl rfl rfl ?_
              refine VQ_gn rfl rfl rfl hc47 rfl rfl rfl ?_
              refine VQ_gn rfl rfl rfl hc47 rfl rfl rfl ?_
              refine VQ_gn rfl rfl rfl hc47 rfl rfl rfl ?_
              refine VQ_gn rfl rfl rfl hc47 rfl rfl rfl ?_
              refine VQ_gn rfl rfl rfl hc47 rfl rfl rfl ?_
              refine VQ_gn rfl rfl rfl hc47 rfl rfl rfl ?_
              refine VQ_y (fun _ _ => Y_pick_fe rfl hc47 rfl) rfl rfl rfl ?_
              obtain rfl := Option.some.inj hs48
              exact VQ_end fun a ha => ⟨(), ha.sub ⟨rfl, rfl, rfl, rfl, rfl, rfl, trivial⟩, trivial⟩
          simp only [List.take, List.drop]
          rintro _ _
          refine VQ_y (fun w' hw' => Y_assign rfl) rfl rfl rfl ?_
          refine VQ_to (fun _ _ => rfl) (fun w55 hk56 => ?_)
          have ht57 := Kp.tr hk56 hA hB
          replace hH := Hp.kp hH hk56
          replace h_l := Sl.tr h_l ht57
          replace h42 := El.tr h42 ht57
          replace hK := Tr.trans hK ht57
          replace hr6 := Tr.trans hr6 ht57
          replace hB := Nat.le_trans hB ht57.ex.size
          replace hA := ht57.new
          refine C_cond rfl (fun hc58 => ?_) (fun hc58 => ?_)
          · rw [if_pos hc58] at h19
            refine C_seq ?_
            refine C_region ?_
            refine V_y (Y_assign rfl) rfl rfl rfl ?_
            refine V_to (fun _ _ => rfl) ?_
            obtain rfl := Option.some.inj h19
            obtain rfl := (h20 : Lp.rt _ = _)
            rw [Lp.andThen_rt] at hm
            obtain rfl := Option.some.inj hm
            refine C_ret ?_
            try simp only [↓inBlock_ret, ↓then_ret]
            exact retQ rfl (Res.one Tryd.results11 rfl) ⟨rfl, hK.kp⟩
          · rw [if_neg (nt hc58)] at h19
            refine C_seq ?_
            refine C_region ?_
            have h59 := El_route_Person_1 h42
            refine V_y (Y_fieldAddr Tryd.underlying69 rfl Tryd.sizeOf3 (by decide) rfl) rfl rfl rfl ?_
            refine V_y (Y_load (El.int h59) Tryd.isAgg3 rfl) rfl rfl rfl ?_
            refine V_call Tryd.call30 rfl rfl rfl rfl (route_within_c w55 x27.capacity 0 100) ?_
            rintro _ _ ⟨rfl, rfl⟩
            refine V_y (Y_not rfl) rfl rfl rfl ?_
            refine V_y (Y_move rfl) rfl rfl rfl ?_
            refine V_cut 5 (fun _ : Unit => [(0, v_l), (4, .pointer (some ⟨b34, 0, none⟩)), (9, v_l), (10, .int .i64 (l.length : Int)), (11, .int .i64 (k7 : Int)), (45, .bool ((!(route_within x27.capacity 0 100)) || (!(route_within x27.calendar 0 19))))]) (fun _ w' => w55 = w') ?_ ?_
            · simp only [List.take, List.drop]
              rcases Bool.eq_false_or_eq_true (!(route_within x27.capacity 0 100)) with hc60 | hc60
              · refine V_gn rfl rfl rfl hc60 rfl rfl rfl ?_
                refine V_gn rfl rfl rfl hc60 rfl rfl rfl ?_
                refine V_gn rfl rfl rfl hc60 rfl rfl rfl ?_
                refine V_gn rfl rfl rfl hc60 rfl rfl rfl ?_
                refine V_y (Y_pick_te rfl hc60 rfl) rfl rfl rfl ?_
                exact V_end fun a ha => ⟨(), ha.sub ⟨rfl, rfl, rfl, rfl, rfl, (by rw [hc60]; rfl), trivial⟩, rfl⟩
              · refine V_ge rfl rfl rfl hc60 ?_
                have h62 := El_route_Person_2 h42
                refine V_y (Y_fieldAddr Tryd.underlying69 rfl Tryd.sizeOf3 (by decide) rfl) rfl rfl rfl ?_
                refine V_ge rfl rfl rfl hc60 ?_
                refine V_y (Y_load (El.int h62) Tryd.isAgg3 rfl) rfl rfl rfl ?_
                refine V_ge rfl rfl rfl hc60 ?_
                refine V_call Tryd.call30 rfl rfl rfl rfl (route_within_c w55 x27.calendar 0 19) ?_
                rintro _ _ ⟨rfl, rfl⟩
                refine V_ge rfl rfl rfl hc60 ?_
                refine V_y (Y_not rfl) rfl rfl rfl ?_
                refine V_y (Y_pick_fe rfl hc60 rfl) rfl rfl rfl ?_
                exact V_end fun a ha => ⟨(), ha.sub ⟨rfl, rfl, rfl, rfl, rfl, (by rw [hc60]; rfl), trivial⟩, rfl⟩
            simp only [List.take, List.drop]
            rintro _ _ rfl
            refine V_y (Y_assign rfl) rfl rfl rfl ?_
            refine V_to (fun _ _ => rfl) ?_
            refine C_cond rfl (fun hc63 => ?_) (fun hc63 => ?_)
            · rw [if_pos hc63] at h19
              refine C_seq ?_
              refine C_region ?_
              refine V_y (Y_assign rfl) rfl rfl rfl ?_
              refine V_to (fun _ _ => rfl) ?_
              obtain rfl := Option.some.inj h19
              obtain rfl := (h20 : Lp.rt _ = _)
              rw [Lp.andThen_rt] at hm
              obtain rfl := Option.some.inj hm
              refine C_ret ?_
              try simp only [↓inBlock_ret, ↓then_ret]
              exact retQ rfl (Res.one Tryd.results11 rfl) ⟨rfl, hK.kp⟩
            · rw [if_neg (nt hc63)] at h19
              refine C_skip_to (fun _ _ => rfl) ?_
              refine C_seq ?_
              refine C_region ?_
              have h64 := El_route_Person_3 h42
              refine V_y (Y_fieldAddr Tryd.underlying69 rfl Tryd.sizeOf67 (by decide) rfl) rfl rfl rfl ?_
              obtain ⟨v65, h66, h67⟩ := El.list h64
              refine V_y (Y_load h66 Tryd.isAgg67 rfl) rfl rfl rfl ?_
              obtain ⟨x68, hx68, h19⟩ := Option.bind_eq_some_iff.1 h19
              refine V_call Tryd.call31 rfl rfl rfl rfl (route_checkSkills_c w55 hA x27.skills v65 h67 hx68) ?_
              rintro _ w69 ⟨rfl, hk70⟩
              have ht71 := Kp.tr hk70 hA hB
              replace hH := Hp.kp hH hk70
              replace h_l := Sl.tr h_l ht71
              replace h42 := El.tr h42 ht71
              replace h64 := El.tr h64 ht71
              replace h67 := Sl.tr h67 ht71
              replace hK := Tr.trans hK ht71
              replace hr6 := Tr.trans hr6 ht71
              replace hB := Nat.le_trans hB ht71.ex.size
              replace hA := ht71.new
              refine V_y (Y_assign rfl) rfl rfl rfl ?_
              refine V_to (fun _ _ => rfl) ?_
              refine C_seq ?_
              refine C_region ?_
              refine V_y (Y_move rfl) rfl rfl rfl ?_
              refine V_y (Y_neq rfl rfl) rfl rfl rfl ?_
              refine V_to (fun _ _ => rfl) ?_
              refine C_cond rfl (fun hc72 => ?_) (fun hc72 => ?_)
              · rw [if_pos hc72] at h19
                refine C_seq ?_
                refine C_region ?_
                refine V_y (Y_move rfl) rfl rfl rfl ?_
                refine V_y (Y_assign rfl) rfl rfl rfl ?_
                refine V_to (fun _ _ => rfl) ?_
                obtain rfl := Option.some.inj h19
                obtain rfl := (h20 : Lp.rt _ = _)
                rw [Lp.andThen_rt] at hm
                obtain rfl := Option.some.inj hm
                refine C_ret ?_
                try simp only [↓inBlock_ret, ↓then_ret]
                exact retQ rfl (Res.one Tryd.results11 rfl) ⟨rfl, hK.kp⟩
              · rw [if_neg (nt hc72)] at h19
                refine C_skip_to (fun _ _ => rfl) ?_
                refine C_region ?_
                refine V_y (Y_addI rfl rfl) rfl rfl rfl ?_
                refine V_y (Y_move rfl) rfl rfl rfl ?_
                obtain rfl := Option.some.inj h19
                refine V_end (fun a ha73 => ?_)
                exact ⟨(), hlt22, h20, ⟨A16, ha73.sub ⟨rfl, rfl, rfl, (congrArg (fun z => some (Value.int .i64 z)) (w64_succ hlt22 hn25)), trivial⟩, ⟨hH, hr6⟩⟩⟩
      · refine C_exit (fun a ha74 => ?_)
        exact ⟨((), A16), ha74.sub trivial, ⟨(h23 (eq_of_dec hle21 hc26)).symm, hH, hr6⟩⟩
    rintro ⟨s5, A12⟩ w9 ⟨rfl, hH13, hk10⟩ a ha11
    rw [Lp.andThen_fin] at hm
    replace hK := Tr.trans hK hk10
    replace hB := Nat.le_trans hB hk10.ex.size
    replace hA := hk10.new
    replace hH : Hp w.heap.size A12 w9 ([]) := hH13
    refine C_at (n := ⟨53, [], none⟩) (fun _ _ => rfl) ?_ ha11
    refine C_seq ?_
    refine C_region ?_
    refine V_y (Y_assign rfl) rfl rfl rfl ?_
    refine V_to (fun _ _ => rfl) ?_
    obtain rfl := Option.some.inj hm
    refine C_ret ?_
    try simp only [↓inBlock_ret, ↓then_ret]
    exact retQ rfl (Res.one Tryd.results11 rfl) ⟨rfl, hK.kp⟩

def Tryd_strconv_Itoa_lay_ren : Go.Shelf.Ren := ⟨fun | 129 => 65 | 171 => 19 | 243 => 38 | 246 => 48 | 283 => 52 | 284 => 53 | 285 => 54 | 286 => 55 | 317 => 64 | 318 => 66 | 319 => 67 | 320 => 68 | 337 => 73 | 338 => 74 | n => n, fun | 0 => 0 | 1 => 1 | 2 => 2 | 3 => 3 | 4 => 4 | 5 => 5 | 6 => 6 | 7 => 7 | 8 => 8 | 9 => 9 | 10 => 10 | 11 => 11 | 12 => 12 | 13 => 13 | 14 => 14 | 15 => 15 | 16 => 16 | 17 => 17 | 18 => 18 | 19 => 19 | 20 => 20 | 21 => 21 | 23 => 92 | 27 => 128 | 28 => 46 | 31 => 70 | 37 => 43 | 40 => 127 | 41 => 114 | 43 => 85 | 46 => 112 | 47 => 113 | 51 => 110 | 52 => 118 | 53 => 94 | 54 => 95 | 55 => 126 | 63 => 117 | 64 => 119 | 67 => 73 | 70 => 42 | 71 => 44 | 72 => 45 | 73 => 86 | 74 => 47 | 75 => 48 | 76 => 49 | 77 => 50 | 78 => 52 | 80 => 61 | 81 => 60 | 83 => 51 | 84 => 91 | 104 => 87 | 105 => 115 | 106 => 116 | 111 => 79 | 114 => 107 | 115 => 101 | 116 => 102 | 117 => 103 | 118 => 104 | 119 => 122 | 122 => 100 | 123 => 105 | 124 => 106 | 127 => 82 | 137 => 123 | 138 => 124 | 139 => 125 | 164 => 89 | 165 => 90 | 166 => 99 | 171 => 93 | 172 => 96 | 173 => 97 | 174 => 98 | 211 => 108 | 212 => 109 | 213 => 111 | 232 => 120 | 233 => 121 | 238 => 129 | 239 => 130 | 240 => 131 | 241 => 132 | 242 => 133 | 243 => 134 | 244 => 135 | 245 => 136 | 246 => 137 | 247 => 138 | 248 => 139 | 249 => 140 | n => n, fun | 1 => 1 | 3 => 4 | 4 => 5 | 17 => 0 | 18 => 2 | 19 => 3 | n => n⟩
theorem Tryd_strconv_Itoa_lay0 : Go.Proofs.Lays.n171 Tryd.prog Tryd_strconv_Itoa_lay_ren := {
  mixed := by kernel_rfl,
  f129 := Tryd.func65.trans (congrArg some (by kernel_rfl)),
  f171 := Tryd.func19.trans (congrArg some (by kernel_rfl)),
  f243 := Tryd.func38.trans (congrArg some (by kernel_rfl)),
  f246 := Tryd.func48.trans (congrArg some (by kernel_rfl)),
  f283 := Tryd.func52.trans (congrArg some (by kernel_rfl)),
  f284 := Tryd.func53.trans (congrArg some (by kernel_rfl)),
  f285 := Tryd.func54.trans (congrArg some (by kernel_rfl)),
  f286 := Tryd.func55.trans (congrArg some (by kernel_rfl)),
  f317 := Tryd.func64.trans (congrArg some (by kernel_rfl)),
  f318 := Tryd.func66.trans (congrArg some (by kernel_rfl)),
  f319 := Tryd.func67.trans (congrArg some (by kernel_rfl)),
  f320 := Tryd.func68.trans (congrArg some (by kernel_rfl)),
  f337 := Tryd.func73.trans (congrArg some (by kernel_rfl)),
  f338 := Tryd.func74.trans (congrArg some (by kernel_rfl)),
  t0 := Tryd.underlying0,
  a0 := Tryd.isAgg0,
  z0 := Tryd.sizeOf0,
  v0 := Tryd.zeroValue0,
  t2 := Tryd.underlying2,
  a2 := Tryd.isAgg2,
  z2 := Tryd.sizeOf2,
  v2 := Tryd.zeroValue2,
  t3 := Tryd.underlying3,
  a3 := Tryd.isAgg3,
  z3 := Tryd.sizeOf3,
  v3 := Tryd.zeroValue3,
  t4 := Tryd.underlying4,
  a4 := Tryd.isAgg4,
  z4 := Tryd.sizeOf4,
  v4 := Tryd.zeroValue4,
  t5 := Tryd.underlying5,
  a5 := Tryd.isAgg5,
  z5 := Tryd.sizeOf5,
  v5 := Tryd.zeroValue5,
  t9 := Tryd.underlying9,
  a9 := Tryd.isAgg9,
  z9 := Tryd.sizeOf9,
  v9 := Tryd.zeroValue9,
  t20 := Tryd.underlying20,
  a20 := Tryd.isAgg20,
  z20 := Tryd.sizeOf20,
  v20 := Tryd.zeroValue20,
  t37 := Tryd.underlying43,
  a37 := Tryd.isAgg43,
  z37 := Tryd.sizeOf43,
  v37 := Tryd.zeroValue43,
  t46 := Tryd.underlying112,
  a46 := Tryd.isAgg112,
  z46 := Tryd.sizeOf112,
  v46 := Tryd.zeroValue112,
  t51 := Tryd.underlying110,
  a51 := Tryd.isAgg110,
  z51 := Tryd.sizeOf110,
  v51 := Tryd.zeroValue110,
  t53 := Tryd.underlying94,
  a53 := Tryd.isAgg94,
  z53 := Tryd.sizeOf94,
  v53 := Tryd.zeroValue94,
  t171 := Tryd.underlying93,
  a171 := Tryd.isAgg93,
  z171 := Tryd.sizeOf93,
  v171 := Tryd.zeroValue93,
  t173 := Tryd.underlying97,
  a173 := Tryd.isAgg97,
  z173 := Tryd.sizeOf97,
  v173 := Tryd.zeroValue97,
  t212 := Tryd.underlying109,
  a212 := Tryd.isAgg109,
  z212 := Tryd.sizeOf109,
  v212 := Tryd.zeroValue109,
  t213 := Tryd.underlying111,
  a213 := Tryd.isAgg111,
  z213 := Tryd.sizeOf111,
  t232 := Tryd.underlying120,
  a232 := Tryd.isAgg120,
  z232 := Tryd.sizeOf120,
  v232 := Tryd.zeroValue120,
  t233 := Tryd.underlying121,
  a233 := Tryd.isAgg121,
  z233 := Tryd.sizeOf121,
  v233 := Tryd.zeroValue121,
  g17 := by kernel_rfl,
  g18 := by kernel_rfl,
  g19 := by kernel_rfl }
theorem Tryd_strconv_Itoa_lay : Go.Proofs.LaysM.n171 Tryd.prog Tryd_strconv_Itoa_lay_ren := { Tryd_strconv_Itoa_lay0 with
  i0 := by kernel_rfl,
  i2 := by kernel_rfl,
  i3 := by kernel_rfl,
  i4 := by kernel_rfl,
  i5 := by kernel_rfl,
  i9 := by kernel_rfl,
  i20 := by kernel_rfl,
  i37 := by kernel_rfl,
  i46 := by kernel_rfl,
  i51 := by kernel_rfl,
  i53 := by kernel_rfl,
  i171 := by kernel_rfl,
  i173 := by kernel_rfl,
  i212 := by kernel_rfl,
  i232 := by kernel_rfl,
  i233 := by kernel_rfl,
  m17 := by kernel_rfl,
  m18 := by kernel_rfl,
  m19 := by kernel_rfl }
theorem strconv_Itoa_c (w : World) {A : Nat → Prop} (hA : ∀ b, w.heap.size ≤ b → A b) (hT : Tb Tryd.prog A w) (n : Int) {r : ByteArray} (hm : strconv_Itoa n = some r) : Ret Tryd.prog 19 #[.int .i64 n] w fun v w' => v = .string r ∧ Kp w w' := by
  unfold strconv_Itoa at hm
  split at hm
  case isFalse => cases hm
  rename_i h
  obtain rfl := Option.some.inj hm
  refine Calls.mono (Go.Proofs.Any.strconv_Itoa Tryd_strconv_Itoa_lay n h.1 h.2 w hT.1) ?_
  rintro _ w' ⟨rfl, k, os, rfl⟩
  exact ⟨_, rfl, rfl, Go.Lib.below_grow _ w (Nat.le_refl _) k os⟩

def Tryd_strings_Join_lay_ren : Go.Shelf.Ren := ⟨fun | 156 => 29 | 165 => 43 | 166 => 18 | 169 => 22 | 240 => 37 | 241 => 50 | 276 => 47 | 277 => 56 | n => n, fun | 0 => 0 | 1 => 1 | 2 => 2 | 3 => 3 | 4 => 4 | 5 => 5 | 6 => 6 | 7 => 7 | 8 => 8 | 9 => 9 | 10 => 10 | 11 => 11 | 12 => 12 | 13 => 13 | 14 => 14 | 15 => 15 | 16 => 16 | 17 => 17 | 18 => 18 | 19 => 19 | 20 => 20 | 21 => 21 | 23 => 92 | 27 => 128 | 28 => 46 | 31 => 70 | 37 => 43 | 40 => 127 | 41 => 114 | 43 => 85 | 46 => 112 | 47 => 113 | 51 => 110 | 52 => 118 | 53 => 94 | 54 => 95 | 55 => 126 | 63 => 117 | 64 => 119 | 67 => 73 | 70 => 42 | 71 => 44 | 72 => 45 | 73 => 86 | 74 => 47 | 75 => 48 | 76 => 49 | 77 => 50 | 78 => 52 | 80 => 61 | 81 => 60 | 83 => 51 | 84 => 91 | 104 => 87 | 105 => 115 | 106 => 116 | 111 => 79 | 114 => 107 | 115 => 101 | 116 => 102 | 117 => 103 | 118 => 104 | 119 => 122 | 122 => 100 | 123 => 105 | 124 => 106 | 127 => 82 | 137 => 123 | 138 => 124 | 139 => 125 | 164 => 89 | 165 => 90 | 166 => 99 | 171 => 93 | 172 => 96 | 173 => 97 | 174 => 98 | 211 => 108 | 212 => 109 | 213 => 111 | 232 => 120 | 233 => 121 | 238 => 129 | 239 => 130 | 240 => 131 | 241 => 132 | 242 => 133 | 243 => 134 | 244 => 135 | 245 => 136 | 246 => 137 | 247 => 138 | 248 => 139 | 249 => 140 | n => n, fun | 1 => 1 | 3 => 4 | 4 => 5 | 17 => 0 | 18 => 2 | 19 => 3 | n => n⟩
theorem Tryd_strings_Join_lay : Go.Proofs.Lays.n156 Tryd.prog Tryd_strings_Join_lay_ren := {
  mixed := by kernel_rfl,
  f156 := Tryd.func29.trans (congrArg some (by kernel_rfl)),
  f165 := Tryd.func43.trans (congrArg some (by kernel_rfl)),
  f166 := Tryd.func18.trans (congrArg some (by kernel_rfl)),
  f169 := Tryd.func22.trans (congrArg some (by kernel_rfl)),
  f240 := Tryd.func37.trans (congrArg some (by kernel_rfl)),
  f241 := Tryd.func50.trans (congrArg some (by kernel_rfl)),
  f276 := Tryd.func47.trans (congrArg some (by kernel_rfl)),
  f277 := Tryd.func56.trans (congrArg some (by kernel_rfl)),
  t0 := Tryd.underlying0,
  a0 := Tryd.isAgg0,
  z0 := Tryd.sizeOf0,
  v0 := Tryd.zeroValue0,
  t3 := Tryd.underlying3,
  a3 := Tryd.isAgg3,
  z3 := Tryd.sizeOf3,
  v3 := Tryd.zeroValue3,
  t4 := Tryd.underlying4,
  a4 := Tryd.isAgg4,
  z4 := Tryd.sizeOf4,
  v4 := Tryd.zeroValue4,
  t9 := Tryd.underlying9,
  a9 := Tryd.isAgg9,
  z9 := Tryd.sizeOf9,
  v9 := Tryd.zeroValue9,
  t20 := Tryd.underlying20,
  a20 := Tryd.isAgg20,
  z20 := Tryd.sizeOf20,
  v20 := Tryd.zeroValue20,
  t31 := Tryd.underlying70,
  a31 := Tryd.isAgg70,
  z31 := Tryd.sizeOf70,
  v31 := Tryd.zeroValue70,
  t37 := Tryd.underlying43,
  a37 := Tryd.isAgg43,
  z37 := Tryd.sizeOf43,
  v37 := Tryd.zeroValue43,
  t70 := Tryd.underlying42,
  a70 := Tryd.isAgg42,
  z70 := Tryd.sizeOf42,
  v70 := Tryd.zeroValue42,
  t72 := Tryd.underlying45,
  a72 := Tryd.isAgg45,
  z72 := Tryd.sizeOf45,
  v72 := Tryd.zeroValue45,
  t75 := Tryd.underlying48,
  a75 := Tryd.isAgg48,
  z75 := Tryd.sizeOf48,
  v75 := Tryd.zeroValue48,
  t76 := Tryd.underlying49,
  a76 := Tryd.isAgg49,
  z76 := Tryd.sizeOf49,
  v76 := Tryd.zeroValue49,
  t127 := Tryd.underlying82,
  a127 := Tryd.isAgg82,
  z127 := Tryd.sizeOf82,
  v127 := Tryd.zeroValue82,
  t164 := Tryd.underlying89,
  a164 := Tryd.isAgg89,
  z164 := Tryd.sizeOf89,
  v164 := Tryd.zeroValue89 }
theorem Tryd_strings_Join_lay_x : Go.Proofs.Builder.Extra Tryd.prog Tryd_strings_Join_lay_ren := {
  sizeBuilder := by kernel_rfl
  liesBuilder := by kernel_rfl
  t5 := Tryd.underlying5
  a5 := Tryd.isAgg5
  z5 := Tryd.sizeOf5
  v5 := Tryd.zeroValue5
  infoByte := by kernel_rfl
  cellsByte := by kernel_rfl
  sizeByte := by kernel_rfl
  neB5 := (by decide : (45 : Nat) ≠ 5) }
theorem strings_Join_c (w : World) {A : Nat → Prop} (hA : ∀ b, w.heap.size ≤ b → A b) (elems : List ByteArray) (v_e : Value) (h_e : Sl A w v_e elems) (sep : ByteArray) {r : ByteArray} (hm : strings_Join elems sep = some r) : Ret Tryd.prog 29 #[v_e, .string sep] w fun v w' => v = .string r ∧ Kp w w' := by
  unfold strings_Join at hm
  split at hm
  case isFalse => cases hm
  rename_i h
  obtain rfl := Option.some.inj hm
  exact join_wrap h_e (fun a c => Go.Proofs.Any.strings_Join_none Tryd_strings_Join_lay Tryd_strings_Join_lay_x a c sep w) (fun bk o c h1 h2 h3 => Go.Proofs.Any.strings_Join Tryd_strings_Join_lay Tryd_strings_Join_lay_x bk o c elems sep w h1 h2 h.1 h3 h.2)

def Tryd_strings_Builder_WriteString_lay_ren : Go.Shelf.Ren := ⟨fun | 166 => 18 | 240 => 37 | 276 => 47 | n => n, fun | 0 => 0 | 1 => 1 | 2 => 2 | 3 => 3 | 4 => 4 | 5 => 5 | 6 => 6 | 7 => 7 | 8 => 8 | 9 => 9 | 10 => 10 | 11 => 11 | 12 => 12 | 13 => 13 | 14 => 14 | 15 => 15 | 16 => 16 | 17 => 17 | 18 => 18 | 19 => 19 | 20 => 20 | 21 => 21 | 23 => 92 | 27 => 128 | 28 => 46 | 31 => 70 | 37 => 43 | 40 => 127 | 41 => 114 | 43 => 85 | 46 => 112 | 47 => 113 | 51 => 110 | 52 => 118 | 53 => 94 | 54 => 95 | 55 => 126 | 63 => 117 | 64 => 119 | 67 => 73 | 70 => 42 | 71 => 44 | 72 => 45 | 73 => 86 | 74 => 47 | 75 => 48 | 76 => 49 | 77 => 50 | 78 => 52 | 80 => 61 | 81 => 60 | 83 => 51 | 84 => 91 | 104 => 87 | 105 => 115 | 106 => 116 | 111 => 79 | 114 => 107 | 115 => 101 | 116 => 102 | 117 => 103 | 118 => 104 | 119 => 122 | 122 => 100 | 123 => 105 | 124 => 106 | 127 => 82 | 137 => 123 | 138 => 124 | 139 => 125 | 164 => 89 | 165 => 90 | 166 => 99 | 171 => 93 | 172 => 96 | 173 => 97 | 174 => 98 | 211 => 108 | 212 => 109 | 213 => 111 | 232 => 120 | 233 => 121 | 238 => 129 | 239 => 130 | 240 => 131 | 241 => 132 | 242 => 133 | 243 => 134 | 244 => 135 | 245 => 136 | 246 => 137 | 247 => 138 | 248 => 139 | 249 => 140 | n => n, fun | 1 => 1 | 3 => 4 | 4 => 5 | 17 => 0 | 18 => 2 | 19 => 3 | n => n⟩
theorem Tryd_strings_Builder_WriteString_lay : Go.Proofs.Lays.n166 Tryd.prog Tryd_strings_Builder_WriteString_lay_ren := {
  mixed := by kernel_rfl,
  f166 := Tryd.func18.trans (congrArg some (by kernel_rfl)),
  f240 := Tryd.func37.trans (congrArg some (by kernel_rfl)),
  f276 := Tryd.func47.trans (congrArg some (by kernel_rfl)),
  t0 := Tryd.underlying0,
  a0 := Tryd.isAgg0,
  z0 := Tryd.sizeOf0,
  v0 := Tryd.zeroValue0,
  t3 := Tryd.underlying3,
  a3 := Tryd.isAgg3,
  z3 := Tryd.sizeOf3,
  v3 := Tryd.zeroValue3,
  t4 := Tryd.underlying4,
  a4 := Tryd.isAgg4,
  z4 := Tryd.sizeOf4,
  v4 := Tryd.zeroValue4,
  t9 := Tryd.underlying9,
  a9 := Tryd.isAgg9,
  z9 := Tryd.sizeOf9,
  v9 := Tryd.zeroValue9,
  t20 := Tryd.underlying20,
  a20 := Tryd.isAgg20,
  z20 := Tryd.sizeOf20,
  v20 := Tryd.zeroValue20,
  t37 := Tryd.underlying43,
  a37 := Tryd.isAgg43,
  z37 := Tryd.sizeOf43,
  v37 := Tryd.zeroValue43,
  t70 := Tryd.underlying42,
  a70 := Tryd.isAgg42,
  z70 := Tryd.sizeOf42,
  v70 := Tryd.zeroValue42,
  t72 := Tryd.underlying45,
  a72 := Tryd.isAgg45,
  z72 := Tryd.sizeOf45,
  v72 := Tryd.zeroValue45,
  t75 := Tryd.underlying48,
  a75 := Tryd.isAgg48,
  z75 := Tryd.sizeOf48,
  v75 := Tryd.zeroValue48,
  t164 := Tryd.underlying89,
  a164 := Tryd.isAgg89,
  z164 := Tryd.sizeOf89,
  v164 := Tryd.zeroValue89 }
theorem Tryd_strings_Builder_WriteString_lay_x : Go.Proofs.Builder.Extra Tryd.prog Tryd_strings_Builder_WriteString_lay_ren := {
  sizeBuilder := by kernel_rfl
  liesBuilder := by kernel_rfl
  t5 := Tryd.underlying5
  a5 := Tryd.isAgg5
  z5 := Tryd.sizeOf5
  v5 := Tryd.zeroValue5
  infoByte := by kernel_rfl
  cellsByte := by kernel_rfl
  sizeByte := by kernel_rfl
  neB5 := (by decide : (45 : Nat) ≠ 5) }
theorem strings_Builder_WriteString_c (w : World) {A : Nat → Prop} {B : Nat} (hB : B ≤ w.heap.size) (hA : ∀ b, w.heap.size ≤ b → A b) (b : ByteArray) (b_b : Nat) (s : ByteArray) {L : List Ob} (hH : Hp B A w (obBd 45 5 b_b  b :: L)) {r : Int × Unit × ByteArray} (hm : strings_Builder_WriteString b s = some r) : Ret Tryd.prog 18 #[.pointer (some ⟨b_b, 0, none⟩), .string s] w fun v w' => ∃ A1 : Nat → Prop, v = .tuple #[.int .i64 r.1, .nilIface] ∧ Hp B A1 w' (obBd 45 5 b_b  r.2.2 :: L) ∧ Tr B A w A1 w' := by
  unfold strings_Builder_WriteString at hm
  split at hm
  case isFalse => cases hm
  rename_i h
  obtain rfl := Option.some.inj hm
  exact Hp.bdWrite (ρ := Tryd_strings_Builder_WriteString_lay_ren) s (fun p v xs h1 h2 => bd_write Tryd_strings_Builder_WriteString_lay Tryd_strings_Builder_WriteString_lay_x b_b p v xs s w h1 h2) hB hA hH h

def Tryd_strings_Builder_String_lay_ren : Go.Shelf.Ren := ⟨fun | 169 => 22 | n => n, fun | 0 => 0 | 1 => 1 | 2 => 2 | 3 => 3 | 4 => 4 | 5 => 5 | 6 => 6 | 7 => 7 | 8 => 8 | 9 => 9 | 10 => 10 | 11 => 11 | 12 => 12 | 13 => 13 | 14 => 14 | 15 => 15 | 16 => 16 | 17 => 17 | 18 => 18 | 19 => 19 | 20 => 20 | 21 => 21 | 23 => 92 | 27 => 128 | 28 => 46 | 31 => 70 | 37 => 43 | 40 => 127 | 41 => 114 | 43 => 85 | 46 => 112 | 47 => 113 | 51 => 110 | 52 => 118 | 53 => 94 | 54 => 95 | 55 => 126 | 63 => 117 | 64 => 119 | 67 => 73 | 70 => 42 | 71 => 44 | 72 => 45 | 73 => 86 | 74 => 47 | 75 => 48 | 76 => 49 | 77 => 50 | 78 => 52 | 80 => 61 | 81 => 60 | 83 => 51 | 84 => 91 | 104 => 87 | 105 => 115 | 106 => 116 | 111 => 79 | 114 => 107 | 115 => 101 | 116 => 102 | 117 => 103 | 118 => 104 | 119 => 122 | 122 => 100 | 123 => 105 | 124 => 106 | 127 => 82 | 137 => 123 | 138 => 124 | 139 => 125 | 164 => 89 | 165 => 90 | 166 => 99 | 171 => 93 | 172 => 96 | 173 => 97 | 174 => 98 | 211 => 108 | 212 => 109 | 213 => 111 | 232 => 120 | 233 => 121 | 238 => 129 | 239 => 130 | 240 => 131 | 241 => 132 | 242 => 133 | 243 => 134 | 244 => 135 | 245 => 136 | 246 => 137 | 247 => 138 | 248 => 139 | 249 => 140 | n => n, fun | 1 => 1 | 3 => 4 | 4 => 5 | 17 => 0 | 18 => 2 | 19 => 3 | n => n⟩
theorem Tryd_strings_Builder_String_lay : Go.Proofs.Lays.n169 Tryd.prog Tryd_strings_Builder_String_lay_ren := {
  mixed := by kernel_rfl,
  f169 := Tryd.func22.trans (congrArg some (by kernel_rfl)),
  t0 := Tryd.underlying0,
  a0 := Tryd.isAgg0,
  z0 := Tryd.sizeOf0,
  v0 := Tryd.zeroValue0,
  t3 := Tryd.underlying3,
  a3 := Tryd.isAgg3,
  z3 := Tryd.sizeOf3,
  v3 := Tryd.zeroValue3,
  t9 := Tryd.underlying9,
  a9 := Tryd.isAgg9,
  z9 := Tryd.sizeOf9,
  v9 := Tryd.zeroValue9,
  t37 := Tryd.underlying43,
  a37 := Tryd.isAgg43,
  z37 := Tryd.sizeOf43,
  v37 := Tryd.zeroValue43,
  t70 := Tryd.underlying42,
  a70 := Tryd.isAgg42,
  z70 := Tryd.sizeOf42,
  v70 := Tryd.zeroValue42,
  t72 := Tryd.underlying45,
  a72 := Tryd.isAgg45,
  z72 := Tryd.sizeOf45,
  v72 := Tryd.zeroValue45,
  t127 := Tryd.underlying82,
  a127 := Tryd.isAgg82,
  z127 := Tryd.sizeOf82,
  v127 := Tryd.zeroValue82 }
theorem Tryd_strings_Builder_String_lay_x : Go.Proofs.Builder.Extra Tryd.prog Tryd_strings_Builder_String_lay_ren := {
  sizeBuilder := by kernel_rfl
  liesBuilder := by kernel_rfl
  t5 := Tryd.underlying5
  a5 := Tryd.isAgg5
  z5 := Tryd.sizeOf5
  v5 := Tryd.zeroValue5
  infoByte := by kernel_rfl
  cellsByte := by kernel_rfl
  sizeByte := by kernel_rfl
  neB5 := (by decide : (45 : Nat) ≠ 5) }
theorem strings_Builder_String_c (w : World) {A : Nat → Prop} {B : Nat} (hB : B ≤ w.heap.size) (hA : ∀ b, w.heap.size ≤ b → A b) (b : ByteArray) (b_b : Nat) {L : List Ob} (hH : Hp B A w (obBd 45 5 b_b  b :: L)) {r : ByteArray} (hm : strings_Builder_String b = some r) : Ret Tryd.prog 22 #[.pointer (some ⟨b_b, 0, none⟩)] w fun v w' => ∃ A1 : Nat → Prop, v = .string r ∧ Hp B A1 w' (obBd 45 5 b_b  b :: L) ∧ Tr B A w A1 w' := by
  unfold strings_Builder_String at hm
  obtain rfl := Option.some.inj hm
  exact Hp.bdString (ρ := Tryd_strings_Builder_String_lay_ren) (fun p v l h1 => bd_string Tryd_strings_Builder_String_lay Tryd_strings_Builder_String_lay_x b_b p v l w h1) hB hA hH

set_option maxRecDepth 4000 in
set_option maxHeartbeats 4000000 in
theorem route_PeopleText_c (w : World) {A : Nat → Prop} (hA : ∀ b, w.heap.size ≤ b → A b) (hT : Tb Tryd.prog A w) (l : (List route_Person)) (v_l : Value) (h_l : Sl A w v_l l) {r : (ByteArray × Int)} (hm : route_PeopleText l = some r) : Ret Tryd.prog 9 #[v_l] w fun v w' => v = .tuple #[.string r.1, .int .i64 r.2] ∧ Kp w w' := by
  unfold route_PeopleText at hm
  refine enter Tryd.func9 rfl Tryd.ntmps9 rfl ?_
  have hA0 := hA
  have hB := Nat.le_refl w.heap.size
  have hK : Tr w.heap.size A w A w := Tr.refl hA
  have hH : Hp w.heap.size A w [] := Hp.nil
  refine C_seq ?_
  refine C_region ?_
  refine V_y (Y_assign rfl) rfl rfl rfl ?_
  refine V_y (Y_assign rfl) rfl rfl rfl ?_
  refine V_to (fun _ _ => rfl) ?_
  refine C_seq ?_
  refine C_seq ?_
  refine C_region ?_
  refine V_y (Y_move rfl) rfl rfl rfl ?_
  obtain ⟨x3, hx3, hm⟩ := Option.bind_eq_some_iff.1 hm
  refine V_call Tryd.call11 rfl rfl rfl rfl (route_CheckPeople_c w hA l v_l h_l hx3) ?_
  rintro _ w4 ⟨rfl, hk5⟩
  have ht6 := Kp.tr hk5 hA hB
  replace hH := Hp.kp hH hk5
  replace h_l := Sl.tr h_l ht6
  replace hK := Tr.trans hK ht6
  replace hB := Nat.le_trans hB ht6.ex.size
  replace hA := ht6.new
  refine V_y (Y_assign rfl) rfl rfl rfl ?_
  refine V_to (fun _ _ => rfl) ?_
  refine C_seq ?_
  refine C_region ?_
  refine V_y (Y_move rfl) rfl rfl rfl ?_
  refine V_y (Y_neq rfl rfl) rfl rfl rfl ?_
  refine V_to (fun _ _ => rfl) ?_
  refine C_cond rfl (fun hc7 => ?_) (fun hc7 => ?_)
  · rw [if_pos hc7] at hm
    refine C_seq ?_
    refine C_region ?_
    refine V_y (Y_move rfl) rfl rfl rfl ?_
    refine V_y (Y_assign rfl) rfl rfl rfl ?_
    refine V_y (Y_assign rfl) rfl rfl rfl ?_
    refine V_to (fun _ _ => rfl) ?_
    obtain rfl := Option.some.inj hm
    refine C_ret ?_
    try simp only [↓inBlock_ret, ↓then_ret]
    exact retQ rfl (Res.two Tryd.results9 rfl rfl) ⟨rfl, hK.kp⟩
  · rw [if_neg (nt hc7)] at hm
    refine C_skip_to (fun _ _ => rfl) ?_
    refine C_seq ?_
    refine C_region ?_
    refine V_allocH (B := w.heap.size) hH Tryd.zeroValue45 hB hA rfl ?_
    intro b8 w9 A10 hH11 ht12
    replace hH11 := Hp.bdOf (e := 5) hH11
    replace h_l := Sl.tr h_l ht12
    replace hK := Tr.trans hK ht12
    replace hB := Nat.le_trans hB ht12.ex.size
    replace hA := ht12.new
    replace hH : Hp w.heap.size A10 w9 (obBd 45 5 b8 ByteArray.empty :: []) := hH11
    refine V_to (fun _ _ => rfl) ?_
    refine C_seq ?_
    refine C_seq ?_
    refine C_region ?_
    refine V_y (Y_move rfl) rfl rfl rfl ?_
    refine V_y (Y_lenSl h_l rfl Tryd.underlying34 rfl) rfl rfl rfl ?_
    refine V_y (Y_move rfl) rfl rfl rfl ?_
    refine V_to (fun _ _ => rfl) ?_
    have hn33 := Sl.le h_l
    obtain ⟨o13, ho13, hm⟩ := Option.bind_eq_some_iff.1 hm
    refine C_cutG (ι := (ByteArray × (Nat → Prop))) (fun ⟨s14, A20⟩ => [(5, .pointer (some ⟨b8, 0, none⟩))]) (fun ⟨s14, A20⟩ => fun w' => o13 = .fin s14 ∧ Hp w.heap.size A20 w' (obBd 45 5 b8 s14 :: []) ∧ Tr w.heap.size A10 w9 A20 w') ?_ ?_
    · refine C_block ?_
      refine C_range ho13 (fun k16 s22 a w' => ∃ i : (Nat → Prop), Has ⟨54, [], none⟩ a ([(5, .pointer (some ⟨b8, 0, none⟩)), (16, v_l), (17, .int .i64 (l.length : Int)), (18, .int .i64 (k16 : Int))]) ∧ Hp w.heap.size i w' (obBd 45 5 b8 s22 :: []) ∧ Tr w.heap.size A10 w9 i w') (fun a ha => ⟨A10, ha.sub ⟨rfl, rfl, rfl, rfl, trivial⟩, ⟨hH, Tr.refl hA⟩⟩) ?_
      rintro K k16 s22 a w23 ⟨A24, ha147, hH25, hr15⟩ hle29 K32 h31
      refine C_of ?_ ha147
      replace h_l := Sl.tr h_l hr15
      replace hK := Tr.trans hK hr15
      replace hB := Nat.le_trans hB hr15.ex.size
      replace hA := hr15.new
      replace hH : Hp w.heap.size A24 w23 (obBd 45 5 b8 s22 :: []) := hH25
      refine C_seq (C_region (V_y (Y_lss rfl rfl) rfl rfl rfl (V_to (fun _ _ => rfl) ?_)))
      refine C_seq ?_
      refine C_cond rfl (fun hc34 => ?_) (fun hc34 => ?_)
      · have hlt30 := lt_of_dec hc34
        obtain ⟨x26, h27, h28⟩ := K32 hlt30
        refine C_skip_to (fun _ _ => rfl) ?_
        refine C_seq ?_
        refine C_block ?_
        refine C_seq ?_
        refine C_region ?_
        obtain ⟨x35, hx35, h27⟩ := Option.bind_eq_some_iff.1 h27
        refine V_indexAddr h_l hx35 Tryd.underlying34 Tryd.sizeOf69 rfl rfl rfl ?_
        intro b36 o37 h38
        obtain ⟨v39, h41, h40⟩ := El_route_Person h38
        refine V_y (Y_loadA h41 Tryd.isAgg69 Tryd.sizeOf69 rfl) rfl rfl rfl ?_
        refine V_alloc Tryd.zeroValue69 rfl ?_
        intro b42 w43 h44
        have h49 : (v39).oneCell' = true := by obtain ⟨_, _, e, _⟩ := Sl.form h40; rw [e]; rfl
        refine V_storeNew h44 Tryd.sizeOf69 rfl rfl rfl rfl (by exact (List.forall_mem_cons.2 ⟨rfl, (List.forall_mem_cons.2 ⟨rfl, (List.forall_mem_cons.2 ⟨rfl, (List.forall_mem_cons.2 ⟨h49, (fun _ h => nomatch h)⟩)⟩)⟩)⟩)) ?_
        intro w45 h46
        have hk51 := h46.kp
        have h50 : El (α := route_Person) A24 w45 b42 0 x35 := h46.el hA ⟨[.int .i64 x35.no], _, rfl, rfl, ⟨[.int .i64 x35.capacity], _, rfl, rfl, ⟨[.int .i64 x35.calendar], _, rfl, rfl, ⟨_, rfl, h40⟩⟩⟩⟩
        have ht52 := Kp.tr hk51 hA hB
        replace hH := Hp.kp hH hk51
        replace h_l := Sl.tr h_l ht52
        replace h38 := El.tr h38 ht52
        replace h40 := Sl.tr h40 ht52
        replace hK := Tr.trans hK ht52
        replace hr15 := Tr.trans hr15 ht52
        replace hB := Nat.le_trans hB ht52.ex.size
        replace hA := ht52.new
        refine V_to (fun _ _ => rfl) ?_
        refine C_seq ?_
        refine C_region_qt 9 Tryd_mixed (by kernel_rfl) ?_
        simp only [List.take, List.drop]
        have h53 := El_route_Person_0 h50
        refine VQ_y (fun w' hw' => Y_fieldAddr Tryd.underlying69 rfl Tryd.sizeOf3 (by decide) rfl) rfl rfl rfl ?_
        refine VQ_y (fun w' hw' => Y_load (El.int (El.kp h53 hw')) Tryd.isAgg3 rfl) rfl rfl rfl ?_
        obtain ⟨x54, hx54, h27⟩ := Option.bind_eq_some_iff.1 h27
        refine VQ_call (.string x54) Tryd.call19 rfl rfl rfl rfl (fun w' hw' => (strconv_Itoa_c w' (fun b hb => hA b (Nat.le_trans hw'.size hb)) (Tb.kp (Tb.tr hT hK) hw') x35.no hx54).mono (fun _ _ h => ⟨h.1, Kp.trans hw' h.2⟩)) ?_
        have h55 := El_route_Person_1 h50
        refine VQ_y (fun w' hw' => Y_fieldAddr Tryd.underlying69 rfl Tryd.sizeOf3 (by decide) rfl) rfl rfl rfl ?_
        refine VQ_y (fun w' hw' => Y_load (El.int (El.kp h55 hw')) Tryd.isAgg3 rfl) rfl rfl rfl ?_
        obtain ⟨x56, hx56, h27⟩ := Option.bind_eq_some_iff.1 h27
        refine VQ_call (.string x56) Tryd.call19 rfl rfl rfl rfl (fun w' hw' => (strconv_Itoa_c w' (fun b hb => hA b (Nat.le_trans hw'.size hb)) (Tb.kp (Tb.tr hT hK) hw') x35.capacity hx56).mono (fun _ _ h => ⟨h.1, Kp.trans hw' h.2⟩)) ?_
        have h57 := El_route_Person_2 h50
        refine VQ_y (fun w' hw' => Y_fieldAddr Tryd.underlying69 rfl Tryd.sizeOf3 (by decide) rfl) rfl rfl rfl ?_
        refine VQ_y (fun w' hw' => Y_load (El.int (El.kp h57 hw')) Tryd.isAgg3 rfl) rfl rfl rfl ?_
        obtain ⟨x58, hx58, h27⟩ := Option.bind_eq_some_iff.1 h27
        refine VQ_call (.string x58) Tryd.call19 rfl rfl rfl rfl (fun w' hw' => (strconv_Itoa_c w' (fun b hb => hA b (Nat.le_trans hw'.size hb)) (Tb.kp (Tb.tr hT hK) hw') x35.calendar hx58).mono (fun _ _ h => ⟨h.1, Kp.trans hw' h.2⟩)) ?_
        refine VQ_tail (fun w59 hk60 => ?_)
        try simp only [List.take, List.drop]
        have ht61 := Kp.tr hk60 hA hB
        replace hH := Hp.kp hH hk60
        replace h_l := Sl.tr h_l ht61
        replace h50 := El.tr h50 ht61
        replace h53 := El.tr h53 ht61
        replace h55 := El.tr h55 ht61
        replace h57 := El.tr h57 ht61
        replace hK := Tr.trans hK ht61
        replace hr15 := Tr.trans hr15 ht61
        replace hB := Nat.le_trans hB ht61.ex.size
        replace hA := ht61.new
        refine V_buildOwnH (l := ([(⟨#[112, 101, 114, 115, 111, 110]⟩ : ByteArray), x54, x56, x58] : List ByteArray)) (len := 4) hH Tryd.underlying70 Tryd.sizeOf9 Tryd.zeroValue9 rfl (by with_unfolding_all rfl) (by decide) (by decide) hB hA ⟨[.string (⟨#[112, 101, 114, 115, 111, 110]⟩ : ByteArray)], _, rfl, rfl, ⟨[.string x54], _, rfl, rfl, ⟨[.string x56], _, rfl, rfl, ⟨[.string x58], _, rfl, rfl, rfl⟩⟩⟩⟩ rfl rfl ?_
        intro v62 w63 A66 hH68 ht67
        replace h_l := Sl.tr h_l ht67
        replace h50 := El.tr h50 ht67
        replace h53 := El.tr h53 ht67
        replace h55 := El.tr h55 ht67
        replace h57 := El.tr h57 ht67
        replace hK := Tr.trans hK ht67
        replace hr15 := Tr.trans hr15 ht67
        replace hB := Nat.le_trans hB ht67.ex.size
        replace hA := ht67.new
        replace hH : Hp w.heap.size A66 w63 (obS (α := ByteArray) 9 v62 ([(⟨#[112, 101, 114, 115, 111, 110]⟩ : ByteArray), x54, x56, x58] : List ByteArray) :: obBd 45 5 b8 s22 :: []) := hH68
        refine V_y (Y_assign rfl) rfl rfl rfl ?_
        refine V_to (fun _ _ => rfl) ?_
        refine C_seq ?_
        refine C_seq ?_
        refine C_region ?_
        have h69 := El_route_Person_3 h50
        refine V_y (Y_fieldAddr Tryd.underlying69 rfl Tryd.sizeOf67 (by decide) rfl) rfl rfl rfl ?_
        obtain ⟨v70, h71, h72⟩ := El.list h69
        refine V_y (Y_load h71 Tryd.isAgg67 rfl) rfl rfl rfl ?_
        refine V_y (Y_lenSl h72 rfl Tryd.underlying67 rfl) rfl rfl rfl ?_
        refine V_y (Y_move rfl) rfl rfl rfl ?_
        refine V_to (fun _ _ => rfl) ?_
        have hn97 := Sl.le h72
        obtain ⟨o73, ho73, h27⟩ := Option.bind_eq_some_iff.1 h27
        refine C_cutG (ι := ((List ByteArray) × Value × (Nat → Prop))) (fun ⟨s74, v80, A82⟩ => [(5, .pointer (some ⟨b8, 0, none⟩)), (8, v80), (16, v_l), (17, .int .i64 (l.length : Int)), (18, .int .i64 (k16 : Int))]) (fun ⟨s74, v80, A82⟩ => fun w' => o73 = .fin s74 ∧ Hp w.heap.size A82 w' (obS (α := ByteArray) 9 v80 s74 :: obBd 45 5 b8 s22 :: []) ∧ Tr w.heap.size A66 w63 A82 w') ?_ ?_
        · refine C_block ?_
          refine C_range ho73 (fun k76 s84 a w' => ∃ i : (Value × (Nat → Prop)), Has ⟨54, [], none⟩ a ([(5, .pointer (some ⟨b8, 0, none⟩)), (8, i.1), (16, v_l), (17, .int .i64 (l.length : Int)), (18, .int .i64 (k16 : Int)), (33, v70), (34, .int .i64 (x35.skills.length : Int)), (35, .int .i64 (k76 : Int))]) ∧ Hp w.heap.size i.2 w' (obS (α := ByteArray) 9 i.1 s84 :: obBd 45 5 b8 s22 :: []) ∧ Tr w.heap.size A66 w63 i.2 w') (fun a ha => ⟨(v62, A66), ha.sub ⟨rfl, rfl, rfl, rfl, rfl, rfl, rfl, rfl, trivial⟩, ⟨hH, Tr.refl hA⟩⟩) ?_
          rintro K k76 s84 a w85 ⟨⟨v86, A88⟩, ha134, hH89, hr75⟩ hle93 K96 h95
          refine C_of ?_ ha134
          replace h_l := Sl.tr h_l hr75
          replace h72 := Sl.tr h72 hr75
          replace hK := Tr.trans hK hr75
          replace hr15 := Tr.trans hr15 hr75
          replace hB := Nat.le_trans hB hr75.ex.size
          replace hA := hr75.new
          replace hH : Hp w.heap.size A88 w85 (obS (α := ByteArray) 9 v86 s84 :: obBd 45 5 b8 s22 :: []) := hH89
          refine C_seq (C_region (V_y (Y_lss rfl rfl) rfl rfl rfl (V_to (fun _ _ => rfl) ?_)))
          refine C_seq ?_
          refine C_cond rfl (fun hc98 => ?_) (fun hc98 => ?_)
          · have hlt94 := lt_of_dec hc98
            obtain ⟨x90, h91, h92⟩ := K96 hlt94
            refine C_skip_to (fun _ _ => rfl) ?_
            refine C_seq ?_
            refine C_block ?_
            refine C_seq ?_
            refine C_region ?_
            obtain ⟨x99, hx99, h91⟩ := Option.bind_eq_some_iff.1 h91
            refine V_indexAddr h72 hx99 Tryd.underlying67 Tryd.sizeOf72 rfl rfl rfl ?_
            intro b100 o101 h102
            obtain ⟨h103, _⟩ := El_route_Skill h102
            refine V_y (Y_loadA h103 Tryd.isAgg72 Tryd.sizeOf72 rfl) rfl rfl rfl ?_
            refine V_alloc Tryd.zeroValue72 rfl ?_
            intro b104 w105 h106
            refine V_storeNew h106 Tryd.sizeOf72 rfl rfl rfl rfl (by exact (List.forall_mem_cons.2 ⟨rfl, (List.forall_mem_cons.2 ⟨rfl, (fun _ h => nomatch h)⟩)⟩)) ?_
            intro w107 h108
            have hk110 := h108.kp
            have h109 : El (α := route_Skill) A88 w107 b104 0 x99 := h108.el hA ⟨[.string x99.name], _, rfl, rfl, rfl⟩
            have ht111 := Kp.tr hk110 hA hB
            replace hH := Hp.kp hH hk110
            replace h_l := Sl.tr h_l ht111
            replace h72 := Sl.tr h72 ht111
            replace h102 := El.tr h102 ht111
            replace hK := Tr.trans hK ht111
            replace hr15 := Tr.trans hr15 ht111
            replace hr75 := Tr.trans hr75 ht111
            replace hB := Nat.le_trans hB ht111.ex.size
            replace hA := ht111.new
            refine V_to (fun _ _ => rfl) ?_
            refine C_region_ch A88 9 [(1, 0), (1, 1), (1, 2), (1, 3), (1, 4), (2, 5), (2, 6), (4, 7), (1, 8)] Tryd_mixed (by kernel_rfl) (fun w112 hk113 => ?_)
            have ht114 := Kp.tr hk113 hA hB
            replace hH := Hp.kp hH hk113
            replace h_l := Sl.tr h_l ht114
            replace h72 := Sl.tr h72 ht114
            replace h109 := El.tr h109 ht114
            replace hK := Tr.trans hK ht114
            replace hr15 := Tr.trans hr15 ht114
            replace hr75 := Tr.trans hr75 ht114
            replace hB := Nat.le_trans hB ht114.ex.size
            replace hA := ht114.new
            refine CH_q2 rfl ?_
            refine VQ_y (fun w' hw' => Y_move rfl) rfl rfl rfl ?_
            refine VQ_CH ?_
            refine CH_q2 rfl ?_
            have h115 := El_route_Skill_0 h109
            refine VQ_y (fun w' hw' => Y_fieldAddr Tryd.underlying72 rfl Tryd.sizeOf9 (by decide) rfl) rfl rfl rfl ?_
            refine VQ_CH ?_
            refine CH_q2 rfl ?_
            refine VQ_y (fun w' hw' => Y_load (El.str (El.keep h115 (XA.ex hw'))) Tryd.isAgg9 rfl) rfl rfl rfl ?_
            refine VQ_CH ?_
            refine CH_q2 rfl ?_
            have h116 := El_route_Skill_1 h109
            refine VQ_y (fun w' hw' => Y_fieldAddr Tryd.underlying72 rfl Tryd.sizeOf3 (by decide) rfl) rfl rfl rfl ?_
            refine VQ_CH ?_
            refine CH_q2 rfl ?_
            refine VQ_y (fun w' hw' => Y_load (El.int (El.keep h116 (XA.ex hw'))) Tryd.isAgg3 rfl) rfl rfl rfl ?_
            refine VQ_CH ?_
            refine CH_l1 (k := 0) rfl ?_
            obtain ⟨x117, hx117, h91⟩ := Option.bind_eq_some_iff.1 h91
            refine V_call Tryd.call19 rfl rfl rfl rfl (strconv_Itoa_c w112 hA (Tb.tr hT hK) x99.rank hx117) ?_
            rintro _ w118 ⟨rfl, hk119⟩
            have ht120 := Kp.tr hk119 hA hB
            replace hH := Hp.kp hH hk119
            replace h_l := Sl.tr h_l ht120
            replace h72 := Sl.tr h72 ht120
            replace h109 := El.tr h109 ht120
            replace h115 := El.tr h115 ht120
            replace h116 := El.tr h116 ht120
            replace hK := Tr.trans hK ht120
            replace hr15 := Tr.trans hr15 ht120
            replace hr75 := Tr.trans hr75 ht120
            replace hB := Nat.le_trans hB ht120.ex.size
            replace hA := ht120.new
            refine V_CH (hk119) ?_
            refine CH_l1 (k := 0) rfl ?_
            refine V_buildSlice (l := ([x99.name, x117] : List ByteArray)) (len := 2) Tryd.underlying70 Tryd.sizeOf9 Tryd.zeroValue9 rfl (by with_unfolding_all rfl) (by decide) (by decide) hA ⟨[.string x99.name], _, rfl, rfl, ⟨[.string x117], _, rfl, rfl, rfl⟩⟩ rfl rfl ?_
            intro v121 w122 hk124 h123
            have ht125 := Kp.tr hk124 hA hB
            replace hH := Hp.kp hH hk124
            replace h_l := Sl.tr h_l ht125
            replace h72 := Sl.tr h72 ht125
            replace h109 := El.tr h109 ht125
            replace h115 := El.tr h115 ht125
            replace h116 := El.tr h116 ht125
            replace hK := Tr.trans hK ht125
            replace hr15 := Tr.trans hr15 ht125
            replace hr75 := Tr.trans hr75 ht125
            replace hB := Nat.le_trans hB ht125.ex.size
            replace hA := ht125.new
            refine V_CH (hk124) ?_
            refine CH_l1 (k := 2) rfl ?_
            obtain ⟨x126, hx126, h91⟩ := Option.bind_eq_some_iff.1 h91
            refine V_appendH (e := 9) (v := v86) (l := s84) (ti := Tryd.t9) (bytes := 16) (lim := 8796093022208) hH (i := 0) rfl h123 hx126 Tryd.underlying70 Tryd_info9 rfl rfl rfl rfl (by decide) (by decide) (by decide) hB hA rfl rfl rfl ?_
            intro v127 w128 A129 hH130 ht131
            replace h_l := Sl.tr h_l ht131
            replace h72 := Sl.tr h72 ht131
            replace h109 := El.tr h109 ht131
            replace h115 := El.tr h115 ht131
            replace h116 := El.tr h116 ht131
            replace h123 := Sl.tr h123 ht131
            replace hK := Tr.trans hK ht131
            replace hr15 := Tr.trans hr15 ht131
            replace hr75 := Tr.trans hr75 ht131
            replace hB := Nat.le_trans hB ht131.ex.size
            replace hA := ht131.new
            replace hH : Hp w.heap.size A129 w128 (obS (α := ByteArray) 9 v127 x126 :: obBd 45 5 b8 s22 :: []) := hH130
            refine V_CHw ?_
            refine CH_q2 rfl ?_
            refine VQ_y (fun w' hw' => Y_assign rfl) rfl rfl rfl ?_
            refine VQ_CH ?_
            refine CH_tail ?_
            show V _ _ _ _ [] _ _
            refine V_to (fun _ _ => rfl) ?_
            refine C_region ?_
            refine V_y (Y_addI rfl rfl) rfl rfl rfl ?_
            refine V_y (Y_move rfl) rfl rfl rfl ?_
            obtain rfl := Option.some.inj h91
            refine V_end (fun a ha132 => ?_)
            exact ⟨x126, hlt94, h92, ⟨(v127, A129), ha132.sub ⟨rfl, rfl, rfl, rfl, rfl, rfl, rfl, (congrArg (fun z => some (Value.int .i64 z)) (w64_succ hlt94 hn97)), trivial⟩, ⟨hH, hr75⟩⟩⟩
          · refine C_exit (fun a ha133 => ?_)
            exact ⟨(s84, v86, A88), ha133.sub ⟨rfl, rfl, rfl, rfl, rfl, trivial⟩, ⟨(h95 (eq_of_dec hle93 hc98)).symm, hH, hr75⟩⟩
        rintro ⟨s74, v80, A82⟩ w77 ⟨rfl, hH83, hk78⟩ a ha79
        rw [Lp.andThen_fin] at h27
        replace h_l := Sl.tr h_l hk78
        replace hK := Tr.trans hK hk78
        replace hr15 := Tr.trans hr15 hk78
        replace hB := Nat.le_trans hB hk78.ex.size
        replace hA := hk78.new
        replace hH : Hp w.heap.size A82 w77 (obS (α := ByteArray) 9 v80 s74 :: obBd 45 5 b8 s22 :: []) := hH83
        refine C_at (n := ⟨54, [], none⟩) (fun _ _ => rfl) ?_ ha79
        refine C_region ?_
        refine V_y (Y_move rfl) rfl rfl rfl ?_
        obtain ⟨x135, hx135, h27⟩ := Option.bind_eq_some_iff.1 h27
        refine V_call Tryd.call29 rfl rfl rfl rfl (strings_Join_c w77 (A := fun _ => True) (fun _ _ => trivial) s74 v80 (Hp.any (α := ByteArray) (e := 9) (v := v80) (l := s74) hH (i := 0) rfl) (⟨#[32]⟩ : ByteArray) hx135) ?_
        rintro _ w136 ⟨rfl, hk137⟩
        have ht138 := Kp.tr hk137 hA hB
        replace hH := Hp.kp hH hk137
        replace h_l := Sl.tr h_l ht138
        replace hK := Tr.trans hK ht138
        replace hr15 := Tr.trans hr15 ht138
        replace hB := Nat.le_trans hB ht138.ex.size
        replace hA := ht138.new
        obtain ⟨x139, hx139, h27⟩ := Option.bind_eq_some_iff.1 h27
        refine V_y (Y_sadd hx139 rfl rfl) rfl rfl rfl ?_
        replace hH : Hp w.heap.size A82 w136 (obBd 45 5 b8 s22 :: obS (α := ByteArray) 9 v80 s74 :: []) := Hp.front hH (i := 1) rfl
        obtain ⟨x140, hx140, h27⟩ := Option.bind_eq_some_iff.1 h27
        refine V_call Tryd.call18 rfl rfl rfl rfl (strings_Builder_WriteString_c w136 hB hA s22 b8 x139 hH hx140) ?_
        rintro _ w141 ⟨A142, rfl, hH143, ht144⟩
        replace h_l := Sl.tr h_l ht144
        replace hK := Tr.trans hK ht144
        replace hr15 := Tr.trans hr15 ht144
        replace hB := Nat.le_trans hB ht144.ex.size
        replace hA := ht144.new
        replace hH : Hp w.heap.size A142 w141 (obBd 45 5 b8 x140.2.2 :: obS (α := ByteArray) 9 v80 s74 :: []) := hH143
        refine V_to (fun _ _ => rfl) ?_
        refine C_region ?_
        refine V_y (Y_addI rfl rfl) rfl rfl rfl ?_
        refine V_y (Y_move rfl) rfl rfl rfl ?_
        obtain rfl := Option.some.inj h27
        refine V_end (fun a ha145 => ?_)
        replace hH : Hp w.heap.size A142 w141 (obBd 45 5 b8 x140.2.2 :: []) := Hp.drop hH (i := 1) rfl
        exact ⟨x140.2.2, hlt30, h28, ⟨A142, ha145.sub ⟨rfl, rfl, rfl, (congrArg (fun z => some (Value.int .i64 z)) (w64_succ hlt30 hn33)), trivial⟩, ⟨hH, hr15⟩⟩⟩
      · refine C_exit (fun a ha146 => ?_)
        exact ⟨(s22, A24), ha146.sub ⟨rfl, trivial⟩, ⟨(h31 (eq_of_dec hle29 hc34)).symm, hH, hr15⟩⟩
    rintro ⟨s14, A20⟩ w17 ⟨rfl, hH21, hk18⟩ a ha19
    rw [Lp.andThen_fin] at hm
    replace hK := Tr.trans hK hk18
    replace hB := Nat.le_trans hB hk18.ex.size
    replace hA := hk18.new
    replace hH : Hp w.heap.size A20 w17 (obBd 45 5 b8 s14 :: []) := hH21
    refine C_at (n := ⟨54, [], none⟩) (fun _ _ => rfl) ?_ ha19
    refine C_seq ?_
    refine C_region ?_
    obtain ⟨x148, hx148, hm⟩ := Option.bind_eq_some_iff.1 hm
    refine V_call Tryd.call22 rfl rfl rfl rfl (strings_Builder_String_c w17 hB hA s14 b8 hH hx148) ?_
    rintro _ w149 ⟨A150, rfl, hH151, ht152⟩
    replace hK := Tr.trans hK ht152
    replace hB := Nat.le_trans hB ht152.ex.size
    replace hA := ht152.new
    replace hH : Hp w.heap.size A150 w149 (obBd 45 5 b8 s14 :: []) := hH151
    refine V_y (Y_assign rfl) rfl rfl rfl ?_
    refine V_y (Y_assign rfl) rfl rfl rfl ?_
    refine V_to (fun _ _ => rfl) ?_
    obtain rfl := Option.some.inj hm
    refine C_ret ?_
    try simp only [↓inBlock_ret, ↓then_ret]
    exact retQ rfl (Res.two Tryd.results9 rfl rfl) ⟨rfl, hK.kp⟩

def Tryd_strings_Trim_lay_ren : Go.Shelf.Ren := ⟨fun | 119 => 79 | 120 => 77 | 137 => 78 | 151 => 71 | 152 => 76 | 160 => 51 | 197 => 70 | 217 => 82 | 224 => 80 | 225 => 81 | 227 => 59 | 228 => 69 | 231 => 57 | 232 => 58 | 233 => 60 | 234 => 61 | 235 => 62 | 236 => 63 | 260 => 75 | 266 => 83 | 271 => 72 | n => n, fun | 0 => 0 | 1 => 1 | 2 => 2 | 3 => 3 | 4 => 4 | 5 => 5 | 6 => 6 | 7 => 7 | 8 => 8 | 9 => 9 | 10 => 10 | 11 => 11 | 12 => 12 | 13 => 13 | 14 => 14 | 15 => 15 | 16 => 16 | 17 => 17 | 18 => 18 | 19 => 19 | 20 => 20 | 21 => 21 | 23 => 92 | 27 => 128 | 28 => 46 | 31 => 70 | 37 => 43 | 40 => 127 | 41 => 114 | 43 => 85 | 46 => 112 | 47 => 113 | 51 => 110 | 52 => 118 | 53 => 94 | 54 => 95 | 55 => 126 | 63 => 117 | 64 => 119 | 67 => 73 | 70 => 42 | 71 => 44 | 72 => 45 | 73 => 86 | 74 => 47 | 75 => 48 | 76 => 49 | 77 => 50 | 78 => 52 | 80 => 61 | 81 => 60 | 83 => 51 | 84 => 91 | 104 => 87 | 105 => 115 | 106 => 116 | 111 => 79 | 114 => 107 | 115 => 101 | 116 => 102 | 117 => 103 | 118 => 104 | 119 => 122 | 122 => 100 | 123 => 105 | 124 => 106 | 127 => 82 | 137 => 123 | 138 => 124 | 139 => 125 | 164 => 89 | 165 => 90 | 166 => 99 | 171 => 93 | 172 => 96 | 173 => 97 | 174 => 98 | 211 => 108 | 212 => 109 | 213 => 111 | 232 => 120 | 233 => 121 | 238 => 129 | 239 => 130 | 240 => 131 | 241 => 132 | 242 => 133 | 243 => 134 | 244 => 135 | 245 => 136 | 246 => 137 | 247 => 138 | 248 => 139 | 249 => 140 | n => n, fun | 1 => 1 | 3 => 4 | 4 => 5 | 17 => 0 | 18 => 2 | 19 => 3 | n => n⟩
theorem Tryd_strings_Trim_lay : Go.Proofs.Lays.n160 Tryd.prog Tryd_strings_Trim_lay_ren := {
  mixed := by kernel_rfl,
  f119 := Tryd.func79.trans (congrArg some (by kernel_rfl)),
  f120 := Tryd.func77.trans (congrArg some (by kernel_rfl)),
  f137 := Tryd.func78.trans (congrArg some (by kernel_rfl)),
  f151 := Tryd.func71.trans (congrArg some (by kernel_rfl)),
  f152 := Tryd.func76.trans (congrArg some (by kernel_rfl)),
  f160 := Tryd.func51.trans (congrArg some (by kernel_rfl)),
  f197 := Tryd.func70.trans (congrArg some (by kernel_rfl)),
  f217 := Tryd.func82.trans (congrArg some (by kernel_rfl)),
  f224 := Tryd.func80.trans (congrArg some (by kernel_rfl)),
  f225 := Tryd.func81.trans (congrArg some (by kernel_rfl)),
  f227 := Tryd.func59.trans (congrArg some (by kernel_rfl)),
  f228 := Tryd.func69.trans (congrArg some (by kernel_rfl)),
  f231 := Tryd.func57.trans (congrArg some (by kernel_rfl)),
  f232 := Tryd.func58.trans (congrArg some (by kernel_rfl)),
  f233 := Tryd.func60.trans (congrArg some (by kernel_rfl)),
  f234 := Tryd.func61.trans (congrArg some (by kernel_rfl)),
  f235 := Tryd.func62.trans (congrArg some (by kernel_rfl)),
  f236 := Tryd.func63.trans (congrArg some (by kernel_rfl)),
  f260 := Tryd.func75.trans (congrArg some (by kernel_rfl)),
  f266 := Tryd.func83.trans (congrArg some (by kernel_rfl)),
  f271 := Tryd.func72.trans (congrArg some (by kernel_rfl)),
  t0 := Tryd.underlying0,
  a0 := Tryd.isAgg0,
  z0 := Tryd.sizeOf0,
  v0 := Tryd.zeroValue0,
  t3 := Tryd.underlying3,
  a3 := Tryd.isAgg3,
  z3 := Tryd.sizeOf3,
  v3 := Tryd.zeroValue3,
  t4 := Tryd.underlying4,
  a4 := Tryd.isAgg4,
  z4 := Tryd.sizeOf4,
  v4 := Tryd.zeroValue4,
  t5 := Tryd.underlying5,
  a5 := Tryd.isAgg5,
  z5 := Tryd.sizeOf5,
  v5 := Tryd.zeroValue5,
  t9 := Tryd.underlying9,
  a9 := Tryd.isAgg9,
  z9 := Tryd.sizeOf9,
  v9 := Tryd.zeroValue9,
  t21 := Tryd.underlying21,
  a21 := Tryd.isAgg21,
  z21 := Tryd.sizeOf21,
  v21 := Tryd.zeroValue21,
  t46 := Tryd.underlying112,
  a46 := Tryd.isAgg112,
  z46 := Tryd.sizeOf112,
  v46 := Tryd.zeroValue112,
  t105 := Tryd.underlying115,
  a105 := Tryd.isAgg115,
  z105 := Tryd.sizeOf115,
  v105 := Tryd.zeroValue115,
  t116 := Tryd.underlying102,
  a116 := Tryd.isAgg102,
  z116 := Tryd.sizeOf102,
  t117 := Tryd.underlying103,
  a117 := Tryd.isAgg103,
  z117 := Tryd.sizeOf103,
  v117 := Tryd.zeroValue103,
  t119 := Tryd.underlying122,
  a119 := Tryd.isAgg122,
  z119 := Tryd.sizeOf122,
  t124 := Tryd.underlying106,
  a124 := Tryd.isAgg106,
  z124 := Tryd.sizeOf106,
  v124 := Tryd.zeroValue106,
  t138 := Tryd.underlying124,
  a138 := Tryd.isAgg124,
  z138 := Tryd.sizeOf124,
  v138 := Tryd.zeroValue124,
  t139 := Tryd.underlying125,
  a139 := Tryd.isAgg125,
  z139 := Tryd.sizeOf125,
  v139 := Tryd.zeroValue125,
  g3 := by kernel_rfl,
  g4 := by kernel_rfl }
theorem strings_Trim_c (w : World) {A : Nat → Prop} (hA : ∀ b, w.heap.size ≤ b → A b) (s : ByteArray) (cutset : ByteArray) {r : ByteArray} (hm : strings_Trim s cutset = some r) : Ret Tryd.prog 51 #[.string s, .string cutset] w fun v w' => v = .string r ∧ Kp w w' := by
  unfold strings_Trim at hm
  split at hm
  case isFalse => cases hm
  rename_i h
  obtain rfl := Option.some.inj hm
  refine Calls.mono (Go.Proofs.Any.strings_Trim_laid Tryd_strings_Trim_lay (by kernel_rfl) s cutset w h.1 h.2.1 (Go.Proofs.ascii_of_all h.2.2)) ?_
  rintro _ w' ⟨rfl, hk⟩
  exact ⟨_, rfl, rfl, hk⟩

set_option maxRecDepth 4000 in
set_option maxHeartbeats 4000000 in
theorem portref2_IsName_c (w : World) {A : Nat → Prop} (hA : ∀ b, w.heap.size ≤ b → A b) (s : ByteArray) {r : Bool} (hm : portref2_IsName s = some r) : Ret Tryd.prog 45 #[.string s] w fun v w' => v = .bool r ∧ Kp w w' := by
  unfold portref2_IsName at hm
  refine enter Tryd.func45 rfl Tryd.ntmps45 rfl ?_
  have hA0 := hA
  have hB := Nat.le_refl w.heap.size
  have hK : Tr w.heap.size A w A w := Tr.refl hA
  have hH : Hp w.heap.size A w [] := Hp.nil
  refine C_seq ?_
  refine C_region ?_
  refine V_y (Y_assign rfl) rfl rfl rfl ?_
  refine V_to (fun _ _ => rfl) ?_
  refine C_seq ?_
  obtain ⟨s2, ho1, hm⟩ := Option.bind_eq_some_iff.1 hm
  refine C_cutG (ι := (Nat → Prop)) (fun (A7 : (Nat → Prop)) => [(2, .bool s2)]) (fun (A7 : (Nat → Prop)) => fun w' => Hp w.heap.size A7 w' ([]) ∧ Tr w.heap.size A w A7 w') ?_ ?_
  · have hr3 : Tr w.heap.size A w A w := Tr.refl hA
    refine C_region ?_
    refine V_y (Y_move rfl) rfl rfl rfl ?_
    refine V_y (Y_lenStr rfl Tryd.underlying9 rfl) rfl rfl rfl ?_
    refine V_y (Y_geq rfl rfl) rfl rfl rfl ?_
    refine V_y (Y_move rfl) rfl rfl rfl ?_
    rcases Bool.eq_false_or_eq_true (decide ((1 : Int) ≤ (s.size : Int))) with hc9 | hc9
    · rw [if_pos hc9] at ho1
      refine V_ge rfl rfl rfl hc9 ?_
      refine V_y (Y_move rfl) rfl rfl rfl ?_
      refine V_ge rfl rfl rfl hc9 ?_
      refine V_y (Y_lenStr rfl Tryd.underlying9 rfl) rfl rfl rfl ?_
      refine V_ge rfl rfl rfl hc9 ?_
      refine V_y (Y_leq rfl rfl) rfl rfl rfl ?_
      refine V_y (Y_pick_te rfl hc9 rfl) rfl rfl rfl ?_
      refine V_y (Y_move rfl) rfl rfl rfl ?_
      rcases Bool.eq_false_or_eq_true (decide ((s.size : Int) ≤ 20)) with hc10 | hc10
      · rw [if_pos hc10] at ho1
        refine V_ge rfl rfl rfl hc10 ?_
        refine V_y (Y_move rfl) rfl rfl rfl ?_
        refine V_ge rfl rfl rfl hc10 ?_
        obtain ⟨x11, hx11, ho1⟩ := Option.bind_eq_some_iff.1 ho1
        refine V_call Tryd.call51 rfl rfl rfl rfl (strings_Trim_c w hA s (⟨#[97, 98, 99, 100, 101, 102, 103, 104, 105, 106, 107, 108, 109, 110, 111, 112, 113, 114, 115, 116, 117, 118, 119, 120, 121, 122, 48, 49, 50, 51, 52, 53, 54, 55, 56, 57, 95]⟩ : ByteArray) hx11) ?_
        rintro _ w12 ⟨rfl, hk13⟩
        have ht14 := Kp.tr hk13 hA hB
        replace hH := Hp.kp hH hk13
        replace hK := Tr.trans hK ht14
        replace hr3 := Tr.trans hr3 ht14
        replace hB := Nat.le_trans hB ht14.ex.size
        replace hA := ht14.new
        refine V_ge rfl rfl rfl hc10 ?_
        refine V_y (Y_seql rfl rfl) rfl rfl rfl ?_
        refine V_y (Y_pick_te rfl hc10 rfl) rfl rfl rfl ?_
        refine V_y (Y_assign rfl) rfl rfl rfl ?_
        obtain rfl := Option.some.inj ho1
        refine V_end (fun a ha15 => ?_)
        exact ⟨A, ha15.sub ⟨rfl, trivial⟩, ⟨hH, hr3⟩⟩
      · rw [if_neg (nt hc10)] at ho1
        refine V_gn rfl rfl rfl hc10 rfl rfl rfl ?_
        refine V_gn rfl rfl rfl hc10 rfl rfl rfl ?_
        refine V_gn rfl rfl rfl hc10 rfl rfl rfl ?_
        refine V_y (Y_pick_fe rfl hc10 rfl) rfl rfl rfl ?_
        refine V_y (Y_assign rfl) rfl rfl rfl ?_
        obtain rfl := Option.some.inj ho1
        refine V_end (fun a ha16 => ?_)
        exact ⟨A, ha16.sub ⟨rfl, trivial⟩, ⟨hH, hr3⟩⟩
    · rw [if_neg (nt hc9)] at ho1
      refine V_gn rfl rfl rfl hc9 rfl rfl rfl ?_
      refine V_gn rfl rfl rfl hc9 rfl rfl rfl ?_
      refine V_gn rfl rfl rfl hc9 rfl rfl rfl ?_
      refine V_y (Y_pick_fe rfl hc9 rfl) rfl rfl rfl ?_
      refine V_y (Y_move rfl) rfl rfl rfl ?_
      rcases Bool.eq_false_or_eq_true (false) with hc17 | hc17
      · rw [if_pos hc17] at ho1
        refine V_ge rfl rfl rfl hc17 ?_
        refine V_y (Y_move rfl) rfl rfl rfl ?_
        refine V_ge rfl rfl rfl hc17 ?_
        obtain ⟨x18, hx18, ho1⟩ := Option.bind_eq_some_iff.1 ho1
        refine V_call Tryd.call51 rfl rfl rfl rfl (strings_Trim_c w hA s (⟨#[97, 98, 99, 100, 101, 102, 103, 104, 105, 106, 107, 108, 109, 110, 111, 112, 113, 114, 115, 116, 117, 118, 119, 120, 121, 122, 48, 49, 50, 51, 52, 53, 54, 55, 56, 57, 95]⟩ : ByteArray) hx18) ?_
        rintro _ w19 ⟨rfl, hk20⟩
        have ht21 := Kp.tr hk20 hA hB
        replace hH := Hp.kp hH hk20
        replace hK := Tr.trans hK ht21
        replace hr3 := Tr.trans hr3 ht21
        replace hB := Nat.le_trans hB ht21.ex.size
        replace hA := ht21.new
        refine V_ge rfl rfl rfl hc17 ?_
        refine V_y (Y_seql rfl rfl) rfl rfl rfl ?_
        refine V_y (Y_pick_te rfl hc17 rfl) rfl rfl rfl ?_
        refine V_y (Y_assign rfl) rfl rfl rfl ?_
        obtain rfl := Option.some.inj ho1
        refine V_end (fun a ha22 => ?_)
        exact ⟨A, ha22.sub ⟨rfl, trivial⟩, ⟨hH, hr3⟩⟩
      · rw [if_neg (nt hc17)] at ho1
        refine V_gn rfl rfl rfl hc17 rfl rfl rfl ?_
        refine V_gn rfl rfl rfl hc17 rfl rfl rfl ?_
        refine V_gn rfl rfl rfl hc17 rfl rfl rfl ?_
        refine V_y (Y_pick_fe rfl hc17 rfl) rfl rfl rfl ?_
        refine V_y (Y_assign rfl) rfl rfl rfl ?_
        obtain rfl := Option.some.inj ho1
        refine V_end (fun a ha23 => ?_)
        exact ⟨A, ha23.sub ⟨rfl, trivial⟩, ⟨hH, hr3⟩⟩
  rintro A7 w4 ⟨hH8, hk5⟩ a ha6
  replace hK := Tr.trans hK hk5
  replace hB := Nat.le_trans hB hk5.ex.size
  replace hA := hk5.new
  replace hH : Hp w.heap.size A7 w4 ([]) := hH8
  refine C_at (n := ⟨16, [], none⟩) (fun _ _ => rfl) ?_ ha6
  obtain rfl := Option.some.inj hm
  refine C_ret ?_
  try simp only [↓inBlock_ret, ↓then_ret]
  exact retQ rfl (Res.one Tryd.results45 rfl) ⟨rfl, hK.kp⟩

set_option maxRecDepth 4000 in
set_option maxHeartbeats 4000000 in
theorem portref2_skillsFault_c (w : World) {A : Nat → Prop} (hA : ∀ b, w.heap.size ≤ b → A b) (l : (List route_Skill)) (v_l : Value) (h_l : Sl A w v_l l) {r : Int} (hm : portref2_skillsFault l = some r) : Ret Tryd.prog 32 #[v_l] w fun v w' => v = .int .i64 r ∧ Kp w w' := by
  unfold portref2_skillsFault at hm
  refine enter Tryd.func32 rfl Tryd.ntmps32 rfl ?_
  have hA0 := hA
  have hB := Nat.le_refl w.heap.size
  have hK : Tr w.heap.size A w A w := Tr.refl hA
  have hH : Hp w.heap.size A w [] := Hp.nil
  refine C_seq ?_
  refine C_region ?_
  refine V_y (Y_assign rfl) rfl rfl rfl ?_
  refine V_to (fun _ _ => rfl) ?_
  refine C_seq ?_
  refine C_seq ?_
  refine C_region ?_
  refine V_y (Y_move rfl) rfl rfl rfl ?_
  refine V_y (Y_lenSl h_l rfl Tryd.underlying67 rfl) rfl rfl rfl ?_
  refine V_y (Y_gtr rfl rfl) rfl rfl rfl ?_
  refine V_to (fun _ _ => rfl) ?_
  refine C_cond rfl (fun hc3 => ?_) (fun hc3 => ?_)
  · rw [if_pos hc3] at hm
    refine C_seq ?_
    refine C_region ?_
    refine V_y (Y_assign rfl) rfl rfl rfl ?_
    refine V_to (fun _ _ => rfl) ?_
    obtain rfl := Option.some.inj hm
    refine C_ret ?_
    try simp only [↓inBlock_ret, ↓then_ret]
    exact retQ rfl (Res.one Tryd.results32 rfl) ⟨rfl, hK.kp⟩
  · rw [if_neg (nt hc3)] at hm
    refine C_skip_to (fun _ _ => rfl) ?_
    refine C_seq ?_
    refine C_seq ?_
    refine C_region ?_
    refine V_y (Y_move rfl) rfl rfl rfl ?_
    refine V_y (Y_lenSl h_l rfl Tryd.underlying67 rfl) rfl rfl rfl ?_
    refine V_y (Y_move rfl) rfl rfl rfl ?_
    refine V_to (fun _ _ => rfl) ?_
    have hn25 := Sl.le h_l
    obtain ⟨o4, ho4, hm⟩ := Option.bind_eq_some_iff.1 hm
    refine C_cutG (ι := (Unit × (Nat → Prop))) (fun ⟨s5, A12⟩ => []) (fun ⟨s5, A12⟩ => fun w' => o4 = .fin s5 ∧ Hp w.heap.size A12 w' ([]) ∧ Tr w.heap.size A w A12 w') ?_ ?_
    · refine C_block ?_
      refine C_range ho4 (fun k7 _ a w' => ∃ i : (Nat → Prop), Has ⟨44, [], none⟩ a ([(0, v_l), (8, v_l), (9, .int .i64 (l.length : Int)), (10, .int .i64 (k7 : Int))]) ∧ Hp w.heap.size i w' ([]) ∧ Tr w.heap.size A w i w') (fun a ha => ⟨A, ha.sub ⟨rfl, rfl, rfl, rfl, trivial⟩, ⟨hH, Tr.refl hA⟩⟩) ?_
      rintro K k7 _ a w15 ⟨A16, ha65, hH17, hr6⟩ hle21 K24 h23
      refine C_of ?_ ha65
      replace h_l := Sl.tr h_l hr6
      replace hK := Tr.trans hK hr6
      replace hB := Nat.le_trans hB hr6.ex.size
      replace hA := hr6.new
      replace hH : Hp w.heap.size A16 w15 ([]) := hH17
      refine C_seq (C_region (V_y (Y_lss rfl rfl) rfl rfl rfl (V_to (fun _ _ => rfl) ?_)))
      refine C_seq ?_
      refine C_cond rfl (fun hc26 => ?_) (fun hc26 => ?_)
      · have hlt22 := lt_of_dec hc26
        obtain ⟨x18, h19, h20⟩ := K24 hlt22
        refine C_skip_to (fun _ _ => rfl) ?_
        refine C_seq ?_
        refine C_block ?_
        refine C_seq ?_
        refine C_region ?_
        refine V_y (Y_move rfl) rfl rfl rfl ?_
        obtain ⟨x27, hx27, h19⟩ := Option.bind_eq_some_iff.1 h19
        refine V_indexAddr h_l hx27 Tryd.underlying67 Tryd.sizeOf72 rfl rfl rfl ?_
        intro b28 o29 h30
        obtain ⟨h31, _⟩ := El_route_Skill h30
        refine V_y (Y_loadA h31 Tryd.isAgg72 Tryd.sizeOf72 rfl) rfl rfl rfl ?_
        refine V_alloc Tryd.zeroValue72 rfl ?_
        intro b32 w33 h34
        refine V_y (Y_assign rfl) rfl rfl rfl ?_
        refine V_storeNew h34 Tryd.sizeOf72 rfl rfl rfl rfl (by exact (List.forall_mem_cons.2 ⟨rfl, (List.forall_mem_cons.2 ⟨rfl, (fun _ h => nomatch h)⟩)⟩)) ?_
        intro w35 h36
        have hk38 := h36.kp
        have h37 : El (α := route_Skill) A16 w35 b32 0 x27 := h36.el hA ⟨[.string x27.name], _, rfl, rfl, rfl⟩
        have ht39 := Kp.tr hk38 hA hB
        replace hH := Hp.kp hH hk38
        replace h_l := Sl.tr h_l ht39
        replace h30 := El.tr h30 ht39
        replace hK := Tr.trans hK ht39
        replace hr6 := Tr.trans hr6 ht39
        replace hB := Nat.le_trans hB ht39.ex.size
        replace hA := ht39.new
        refine V_to (fun _ _ => rfl) ?_
        refine C_block ?_
        refine C_seq ?_
        refine C_region ?_
        have h40 := El_route_Skill_0 h37
        refine V_y (Y_fieldAddr Tryd.underlying72 rfl Tryd.sizeOf9 (by decide) rfl) rfl rfl rfl ?_
        refine V_y (Y_load (El.str h40) Tryd.isAgg9 rfl) rfl rfl rfl ?_
        obtain ⟨x41, hx41, h19⟩ := Option.bind_eq_some_iff.1 h19
        refine V_call Tryd.call45 rfl rfl rfl rfl (portref2_IsName_c w35 hA x27.name hx41) ?_
        rintro _ w42 ⟨rfl, hk43⟩
        have ht44 := Kp.tr hk43 hA hB
        replace hH := Hp.kp hH hk43
        replace h_l := Sl.tr h_l ht44
        replace h37 := El.tr h37 ht44
        replace h40 := El.tr h40 ht44
        replace hK := Tr.trans hK ht44
        replace hr6 := Tr.trans hr6 ht44
        replace hB := Nat.le_trans hB ht44.ex.size
        replace hA := ht44.new
        refine V_y (Y_not rfl) rfl rfl rfl ?_
        refine V_y (Y_assign rfl) rfl rfl rfl ?_
        refine V_to (fun _ _ => rfl) ?_
        refine C_cond rfl (fun hc45 => ?_) (fun hc45 => ?_)
        · rw [if_pos hc45] at h19
          refine C_seq ?_
          refine C_region ?_
          refine V_y (Y_assign rfl) rfl rfl rfl ?_
          refine V_to (fun _ _ => rfl) ?_
          obtain rfl := Option.some.inj h19
          obtain rfl := (h20 : Lp.rt _ = _)
          rw [Lp.andThen_rt] at hm
          obtain rfl := Option.some.inj hm
          refine C_ret ?_
          try simp only [↓inBlock_ret, ↓then_ret]
          exact retQ rfl (Res.one Tryd.results32 rfl) ⟨rfl, hK.kp⟩
        · rw [if_neg (nt hc45)] at h19
          refine C_seq ?_
          refine C_region_q Tryd_mixed (by kernel_rfl) ?_
          refine VQ_y (fun w' hw' => Y_move rfl) rfl rfl rfl ?_
          refine VQ_y (fun w' hw' => Y_gtr rfl rfl) rfl rfl rfl ?_
          refine VQ_y (fun w' hw' => Y_move rfl) rfl rfl rfl ?_
          obtain ⟨s47, hs47, h19⟩ := Option.bind_eq_some_iff.1 h19
          refine VQ_cut 10 (fun _ : Unit => [(0, v_l), (4, .pointer (some ⟨b32, 0, none⟩)), (8, v_l), (9, .int .i64 (l.length : Int)), (10, .int .i64 (k7 : Int)), (33, .bool s47)]) (fun _ => True) ?_ ?_
          · simp only [List.take, List.drop]
            rcases Bool.eq_false_or_eq_true (decide ((0 : Int) < (k7 : Int))) with hc46 | hc46
            · rw [if_pos hc46] at hs47
              refine VQ_ge rfl rfl rfl hc46 ?_
              have h48 := El_route_Skill_0 h37
              refine VQ_y (fun w' hw' => Y_fieldAddr Tryd.underlying72 rfl Tryd.sizeOf9 (by decide) rfl) rfl rfl rfl ?_
              refine VQ_ge rfl rfl rfl hc46 ?_
              refine VQ_y (fun w' hw' => Y_load (El.str (El.kp h48 hw')) Tryd.isAgg9 rfl) rfl rfl rfl ?_
              refine VQ_ge rfl rfl rfl hc46 ?_
              refine VQ_y (fun w' hw' => Y_move rfl) rfl rfl rfl ?_
              refine VQ_ge rfl rfl rfl hc46 ?_
              refine VQ_y (fun w' hw' => Y_move rfl) rfl rfl rfl ?_
              refine VQ_ge rfl rfl rfl hc46 ?_
              refine VQ_y (fun w' hw' => Y_subI rfl rfl) rfl rfl rfl ?_
              refine VQ_ge rfl rfl rfl hc46 ?_
              obtain ⟨x49, hx49, hs47⟩ := Option.bind_eq_some_iff.1 hs47
              refine VQ_indexAddr h_l hx49 Tryd.underlying67 Tryd.sizeOf72 rfl rfl rfl ?_
              intro b50 o51 h52
              refine VQ_ge rfl rfl rfl hc46 ?_
              have h53 := El_route_Skill_0 h52
              refine VQ_y (fun w' hw' => Y_fieldAddr Tryd.underlying72 rfl Tryd.sizeOf9 (by decide) rfl) rfl rfl rfl ?_
              refine VQ_ge rfl rfl rfl hc46 ?_
              refine VQ_y (fun w' hw' => Y_load (El.str (El.kp h53 hw')) Tryd.isAgg9 rfl) rfl rfl rfl ?_
              refine VQ_ge rfl rfl rfl hc46 ?_
              refine VQ_y (fun w' hw' => Y_sleq rfl rfl) rfl rfl rfl ?_
              refine VQ_y (fun _ _ => Y_pick_te rfl hc46 rfl) rfl rfl rfl ?_
              obtain rfl := Option.some.inj hs47
              exact VQ_end fun a ha => ⟨(), ha.sub ⟨rfl, rfl, rfl, rfl, rfl, rfl, trivial⟩, trivial⟩
            · rw [if_neg (nt hc46)] at hs47
              refine VQ_gn rfl rfl rfl hc46 rfl rfl rfl ?_
              refine VQ_gn rfl rfl rfl hc46 rfl rfl rfl ?_
              refine VQ_gn rfl rfl rfl hc46 rfl rfl rfl ?_
              refine VQ_gn rfl rfl rfl hc46 rfl rfl rfl ?_
              refine VQ_gn rfl rfl rfl hc46 rfl rfl rfl ?_
              refine VQ_gn rfl rfl rfl hc46 rfl rfl rfl ?_
              refine VQ_gn rfl rfl rfl hc46 rfl rfl rfl ?_
              refine VQ_gn rfl rfl rfl hc46 rfl rfl rfl ?_
              refine VQ_gn rfl rfl rfl hc46 rfl rfl rfl ?_
              refine VQ_y (fun _ _ => Y_pick_fe rfl hc46 rfl) rfl rfl rfl ?_
              obtain rfl := Option.some.inj hs47
              exact VQ_end fun a ha => ⟨(), ha.sub ⟨rfl, rfl, rfl, rfl, rfl, rfl, trivial⟩, trivial⟩
          simp only [List.take, List.drop]
          rintro _ _
          refine VQ_y (fun w' hw' => Y_assign rfl) rfl rfl rfl ?_
          refine VQ_to (fun _ _ => rfl) (fun w54 hk55 => ?_)
          have ht56 := Kp.tr hk55 hA hB
          replace hH := Hp.kp hH hk55
          replace h_l := Sl.tr h_l ht56
          replace h37 := El.tr h37 ht56
          replace hK := Tr.trans hK ht56
          replace hr6 := Tr.trans hr6 ht56
          replace hB := Nat.le_trans hB ht56.ex.size
          replace hA := ht56.new
          refine C_cond rfl (fun hc57 => ?_) (fun hc57 => ?_)
          · rw [if_pos hc57] at h19
            refine C_seq ?_
            refine C_region ?_
            refine V_y (Y_assign rfl) rfl rfl rfl ?_
            refine V_to (fun _ _ => rfl) ?_
            obtain rfl := Option.some.inj h19
            obtain rfl := (h20 : Lp.rt _ = _)
            rw [Lp.andThen_rt] at hm
            obtain rfl := Option.some.inj hm
            refine C_ret ?_
            try simp only [↓inBlock_ret, ↓then_ret]
            exact retQ rfl (Res.one Tryd.results32 rfl) ⟨rfl, hK.kp⟩
          · rw [if_neg (nt hc57)] at h19
            refine C_seq ?_
            refine C_region ?_
            have h58 := El_route_Skill_1 h37
            refine V_y (Y_fieldAddr Tryd.underlying72 rfl Tryd.sizeOf3 (by decide) rfl) rfl rfl rfl ?_
            refine V_y (Y_load (El.int h58) Tryd.isAgg3 rfl) rfl rfl rfl ?_
            refine V_y (Y_lss rfl rfl) rfl rfl rfl ?_
            refine V_y (Y_move rfl) rfl rfl rfl ?_
            refine V_cut 4 (fun _ : Unit => [(0, v_l), (8, v_l), (9, .int .i64 (l.length : Int)), (10, .int .i64 (k7 : Int)), (42, .bool ((decide (x27.rank < 1)) || (decide ((9 : Int) < x27.rank))))]) (fun _ w' => w54 = w') ?_ ?_
            · simp only [List.take, List.drop]
              rcases Bool.eq_false_or_eq_true (decide (x27.rank < 1)) with hc59 | hc59
              · refine V_gn rfl rfl rfl hc59 rfl rfl rfl ?_
                refine V_gn rfl rfl rfl hc59 rfl rfl rfl ?_
                refine V_gn rfl rfl rfl hc59 rfl rfl rfl ?_
                refine V_y (Y_pick_te rfl hc59 rfl) rfl rfl rfl ?_
                exact V_end fun a ha => ⟨(), ha.sub ⟨rfl, rfl, rfl, rfl, (by rw [hc59]; rfl), trivial⟩, rfl⟩
              · refine V_ge rfl rfl rfl hc59 ?_
                have h61 := El_route_Skill_1 h37
                refine V_y (Y_fieldAddr Tryd.underlying72 rfl Tryd.sizeOf3 (by decide) rfl) rfl rfl rfl ?_
                refine V_ge rfl rfl rfl hc59 ?_
                refine V_y (Y_load (El.int h61) Tryd.isAgg3 rfl) rfl rfl rfl ?_
                refine V_ge rfl rfl rfl hc59 ?_
                refine V_y (Y_gtr rfl rfl) rfl rfl rfl ?_
                refine V_y (Y_pick_fe rfl hc59 rfl) rfl rfl rfl ?_
                exact V_end fun a ha => ⟨(), ha.sub ⟨rfl, rfl, rfl, rfl, (by rw [hc59]; rfl), trivial⟩, rfl⟩
            simp only [List.take, List.drop]
            rintro _ _ rfl
            refine V_y (Y_assign rfl) rfl rfl rfl ?_
            refine V_to (fun _ _ => rfl) ?_
            refine C_cond rfl (fun hc62 => ?_) (fun hc62 => ?_)
            · rw [if_pos hc62] at h19
              refine C_seq ?_
              refine C_region ?_
              refine V_y (Y_assign rfl) rfl rfl rfl ?_
              refine V_to (fun _ _ => rfl) ?_
              obtain rfl := Option.some.inj h19
              obtain rfl := (h20 : Lp.rt _ = _)
              rw [Lp.andThen_rt] at hm
              obtain rfl := Option.some.inj hm
              refine C_ret ?_
              try simp only [↓inBlock_ret, ↓then_ret]
              exact retQ rfl (Res.one Tryd.results32 rfl) ⟨rfl, hK.kp⟩
            · rw [if_neg (nt hc62)] at h19
              refine C_skip_to (fun _ _ => rfl) ?_
              refine C_region ?_
              refine V_y (Y_addI rfl rfl) rfl rfl rfl ?_
              refine V_y (Y_move rfl) rfl rfl rfl ?_
              obtain rfl := Option.some.inj h19
              refine V_end (fun a ha63 => ?_)
              exact ⟨(), hlt22, h20, ⟨A16, ha63.sub ⟨rfl, rfl, rfl, (congrArg (fun z => some (Value.int .i64 z)) (w64_succ hlt22 hn25)), trivial⟩, ⟨hH, hr6⟩⟩⟩
      · refine C_exit (fun a ha64 => ?_)
        exact ⟨((), A16), ha64.sub trivial, ⟨(h23 (eq_of_dec hle21 hc26)).symm, hH, hr6⟩⟩
    rintro ⟨s5, A12⟩ w9 ⟨rfl, hH13, hk10⟩ a ha11
    rw [Lp.andThen_fin] at hm
    replace hK := Tr.trans hK hk10
    replace hB := Nat.le_trans hB hk10.ex.size
    replace hA := hk10.new
    replace hH : Hp w.heap.size A12 w9 ([]) := hH13
    refine C_at (n := ⟨44, [], none⟩) (fun _ _ => rfl) ?_ ha11
    refine C_seq ?_
    refine C_region ?_
    refine V_y (Y_assign rfl) rfl rfl rfl ?_
    refine V_to (fun _ _ => rfl) ?_
    obtain rfl := Option.some.inj hm
    refine C_ret ?_
    try simp only [↓inBlock_ret, ↓then_ret]
    exact retQ rfl (Res.one Tryd.results32 rfl) ⟨rfl, hK.kp⟩

set_option maxRecDepth 4000 in
set_option maxHeartbeats 4000000 in
theorem portref2_PeopleFault_c (w : World) {A : Nat → Prop} (hA : ∀ b, w.heap.size ≤ b → A b) (l : (List route_Person)) (v_l : Value) (h_l : Sl A w v_l l) {r : Int} (hm : portref2_PeopleFault l = some r) : Ret Tryd.prog 12 #[v_l] w fun v w' => v = .int .i64 r ∧ Kp w w' := by
  unfold portref2_PeopleFault at hm
  refine enter Tryd.func12 rfl Tryd.ntmps12 rfl ?_
  have hA0 := hA
  have hB := Nat.le_refl w.heap.size
  have hK : Tr w.heap.size A w A w := Tr.refl hA
  have hH : Hp w.heap.size A w [] := Hp.nil
  refine C_seq ?_
  refine C_region ?_
  refine V_y (Y_assign rfl) rfl rfl rfl ?_
  refine V_to (fun _ _ => rfl) ?_
  refine C_seq ?_
  refine C_seq ?_
  refine C_region ?_
  refine V_y (Y_move rfl) rfl rfl rfl ?_
  refine V_y (Y_lenSl h_l rfl Tryd.underlying34 rfl) rfl rfl rfl ?_
  refine V_y (Y_gtr rfl rfl) rfl rfl rfl ?_
  refine V_to (fun _ _ => rfl) ?_
  refine C_cond rfl (fun hc3 => ?_) (fun hc3 => ?_)
  · rw [if_pos hc3] at hm
    refine C_seq ?_
    refine C_region ?_
    refine V_y (Y_assign rfl) rfl rfl rfl ?_
    refine V_to (fun _ _ => rfl) ?_
    obtain rfl := Option.some.inj hm
    refine C_ret ?_
    try simp only [↓inBlock_ret, ↓then_ret]
    exact retQ rfl (Res.one Tryd.results12 rfl) ⟨rfl, hK.kp⟩
  · rw [if_neg (nt hc3)] at hm
    refine C_skip_to (fun _ _ => rfl) ?_
    refine C_seq ?_
    refine C_seq ?_
    refine C_region ?_
    refine V_y (Y_move rfl) rfl rfl rfl ?_
    refine V_y (Y_lenSl h_l rfl Tryd.underlying34 rfl) rfl rfl rfl ?_
    refine V_y (Y_move rfl) rfl rfl rfl ?_
    refine V_to (fun _ _ => rfl) ?_
    have hn25 := Sl.le h_l
    obtain ⟨o4, ho4, hm⟩ := Option.bind_eq_some_iff.1 hm
    refine C_cutG (ι := (Unit × (Nat → Prop))) (fun ⟨s5, A12⟩ => []) (fun ⟨s5, A12⟩ => fun w' => o4 = .fin s5 ∧ Hp w.heap.size A12 w' ([]) ∧ Tr w.heap.size A w A12 w') ?_ ?_
    · refine C_block ?_
      refine C_range ho4 (fun k7 _ a w' => ∃ i : (Nat → Prop), Has ⟨65, [], none⟩ a ([(0, v_l), (9, v_l), (10, .int .i64 (l.length : Int)), (11, .int .i64 (k7 : Int))]) ∧ Hp w.heap.size i w' ([]) ∧ Tr w.heap.size A w i w') (fun a ha => ⟨A, ha.sub ⟨rfl, rfl, rfl, rfl, trivial⟩, ⟨hH, Tr.refl hA⟩⟩) ?_
      rintro K k7 _ a w15 ⟨A16, ha84, hH17, hr6⟩ hle21 K24 h23
      refine C_of ?_ ha84
      replace h_l := Sl.tr h_l hr6
      replace hK := Tr.trans hK hr6
      replace hB := Nat.le_trans hB hr6.ex.size
      replace hA := hr6.new
      replace hH : Hp w.heap.size A16 w15 ([]) := hH17
      refine C_seq (C_region (V_y (Y_lss rfl rfl) rfl rfl rfl (V_to (fun _ _ => rfl) ?_)))
      refine C_seq ?_
      refine C_cond rfl (fun hc26 => ?_) (fun hc26 => ?_)
      · have hlt22 := lt_of_dec hc26
        obtain ⟨x18, h19, h20⟩ := K24 hlt22
        refine C_skip_to (fun _ _ => rfl) ?_
        refine C_seq ?_
        refine C_block ?_
        refine C_seq ?_
        refine C_region ?_
        refine V_y (Y_move rfl) rfl rfl rfl ?_
        obtain ⟨x27, hx27, h19⟩ := Option.bind_eq_some_iff.1 h19
        refine V_indexAddr h_l hx27 Tryd.underlying34 Tryd.sizeOf69 rfl rfl rfl ?_
        intro b28 o29 h30
        obtain ⟨v31, h33, h32⟩ := El_route_Person h30
        refine V_y (Y_loadA h33 Tryd.isAgg69 Tryd.sizeOf69 rfl) rfl rfl rfl ?_
        refine V_alloc Tryd.zeroValue69 rfl ?_
        intro b34 w35 h36
        refine V_y (Y_assign rfl) rfl rfl rfl ?_
        have h41 : (v31).oneCell' = true := by obtain ⟨_, _, e, _⟩ := Sl.form h32; rw [e]; rfl
        refine V_storeNew h36 Tryd.sizeOf69 rfl rfl rfl rfl (by exact (List.forall_mem_cons.2 ⟨rfl, (List.forall_mem_cons.2 ⟨rfl, (List.forall_mem_cons.2 ⟨rfl, (List.forall_mem_cons.2 ⟨h41, (fun _ h => nomatch h)⟩)⟩)⟩)⟩)) ?_
        intro w37 h38
        have hk43 := h38.kp
        have h42 : El (α := route_Person) A16 w37 b34 0 x27 := h38.el hA ⟨[.int .i64 x27.no], _, rfl, rfl, ⟨[.int .i64 x27.capacity], _, rfl, rfl, ⟨[.int .i64 x27.calendar], _, rfl, rfl, ⟨_, rfl, h32⟩⟩⟩⟩
        have ht44 := Kp.tr hk43 hA hB
        replace hH := Hp.kp hH hk43
        replace h_l := Sl.tr h_l ht44
        replace h30 := El.tr h30 ht44
        replace h32 := Sl.tr h32 ht44
        replace hK := Tr.trans hK ht44
        replace hr6 := Tr.trans hr6 ht44
        replace hB := Nat.le_trans hB ht44.ex.size
        replace hA := ht44.new
        refine V_to (fun _ _ => rfl) ?_
        refine C_seq ?_
        refine C_block ?_
        refine C_seq ?_
        refine C_region ?_
        have h45 := El_route_Person_0 h42
        refine V_y (Y_fieldAddr Tryd.underlying69 rfl Tryd.sizeOf3 (by decide) rfl) rfl rfl rfl ?_
        refine V_y (Y_load (El.int h45) Tryd.isAgg3 rfl) rfl rfl rfl ?_
        refine V_y (Y_lss rfl rfl) rfl rfl rfl ?_
        refine V_y (Y_move rfl) rfl rfl rfl ?_
        refine V_cut 4 (fun _ : Unit => [(0, v_l), (3, .int .i64 (k7 : Int)), (4, .pointer (some ⟨b34, 0, none⟩)), (9, v_l), (10, .int .i64 (l.length : Int)), (11, .int .i64 (k7 : Int)), (24, .bool ((decide (x27.no < 1)) || (decide ((40 : Int) < x27.no))))]) (fun _ w' => w37 = w') ?_ ?_
        · simp only [List.take, List.drop]
          rcases Bool.eq_false_or_eq_true (decide (x27.no < 1)) with hc46 | hc46
          · refine V_gn rfl rfl rfl hc46 rfl rfl rfl ?_
            refine V_gn rfl rfl rfl hc46 rfl rfl rfl ?_
            refine V_gn rfl rfl rfl hc46 rfl rfl rfl ?_
            refine V_y (Y_pick_te rfl hc46 rfl) rfl rfl rfl ?_
            exact V_end fun a ha => ⟨(), ha.sub ⟨rfl, rfl, rfl, rfl, rfl, rfl, (by rw [hc46]; rfl), trivial⟩, rfl⟩
          · refine V_ge rfl rfl rfl hc46 ?_
            have h48 := El_route_Person_0 h42
            refine V_y (Y_fieldAddr Tryd.underlying69 rfl Tryd.sizeOf3 (by decide) rfl) rfl rfl rfl ?_
            refine V_ge rfl rfl rfl hc46 ?_
            refine V_y (Y_load (El.int h48) Tryd.isAgg3 rfl) rfl rfl rfl ?_
            refine V_ge rfl rfl rfl hc46 ?_
            refine V_y (Y_gtr rfl rfl) rfl rfl rfl ?_
            refine V_y (Y_pick_fe rfl hc46 rfl) rfl rfl rfl ?_
            exact V_end fun a ha => ⟨(), ha.sub ⟨rfl, rfl, rfl, rfl, rfl, rfl, (by rw [hc46]; rfl), trivial⟩, rfl⟩
        simp only [List.take, List.drop]
        rintro _ _ rfl
        refine V_y (Y_assign rfl) rfl rfl rfl ?_
        refine V_to (fun _ _ => rfl) ?_
        refine C_cond rfl (fun hc49 => ?_) (fun hc49 => ?_)
        · rw [if_pos hc49] at h19
          refine C_seq ?_
          refine C_region ?_
          refine V_y (Y_assign rfl) rfl rfl rfl ?_
          refine V_to (fun _ _ => rfl) ?_
          obtain rfl := Option.some.inj h19
          obtain rfl := (h20 : Lp.rt _ = _)
          rw [Lp.andThen_rt] at hm
          obtain rfl := Option.some.inj hm
          refine C_ret ?_
          try simp only [↓inBlock_ret, ↓then_ret]
          exact retQ rfl (Res.one Tryd.results12 rfl) ⟨rfl, hK.kp⟩
        · rw [if_neg (nt hc49)] at h19
          refine C_seq ?_
          refine C_region_q Tryd_mixed (by kernel_rfl) ?_
          refine VQ_y (fun w' hw' => Y_move rfl) rfl rfl rfl ?_
          refine VQ_y (fun w' hw' => Y_gtr rfl rfl) rfl rfl rfl ?_
          refine VQ_y (fun w' hw' => Y_move rfl) rfl rfl rfl ?_
          obtain ⟨s51, hs51, h19⟩ := Option.bind_eq_some_iff.1 h19
          refine VQ_cut 10 (fun _ : Unit => [(0, v_l), (4, .pointer (some ⟨b34, 0, none⟩)), (9, v_l), (10, .int .i64 (l.length : Int)), (11, .int .i64 (k7 : Int)), (38, .bool s51)]) (fun _ => True) ?_ ?_
          · simp only [List.take, List.drop]
            rcases Bool.eq_false_or_eq_true (decide ((0 : Int) < (k7 : Int))) with hc50 | hc50
            · rw [if_pos hc50] at hs51
              refine VQ_ge rfl rfl rfl hc50 ?_
              have h52 := El_route_Person_0 h42
              refine VQ_y (fun w' hw' => Y_fieldAddr Tryd.underlying69 rfl Tryd.sizeOf3 (by decide) rfl) rfl rfl rfl ?_
              refine VQ_ge rfl rfl rfl hc50 ?_
              refine VQ_y (fun w' hw' => Y_load (El.int (El.kp h52 hw')) Tryd.isAgg3 rfl) rfl rfl rfl ?_
              refine VQ_ge rfl rfl rfl hc50 ?_
              refine VQ_y (fun w' hw' => Y_move rfl) rfl rfl rfl ?_
              refine VQ_ge rfl rfl rfl hc50 ?_
              refine VQ_y (fun w' hw' => Y_move rfl) rfl rfl rfl ?_
              refine VQ_ge rfl rfl rfl hc50 ?_
              refine VQ_y (fun w' hw' => Y_subI rfl rfl) rfl rfl rfl ?_
              refine VQ_ge rfl rfl rfl hc50 ?_
              obtain ⟨x53, hx53, hs51⟩ := Option.bind_eq_some_iff.1 hs51
              refine VQ_indexAddr h_l hx53 Tryd.underlying34 Tryd.sizeOf69 rfl rfl rfl ?_
              intro b54 o55 h56
              refine VQ_ge rfl rfl rfl hc50 ?_
              have h57 := El_route_Person_0 h56
              refine VQ_y (fun w' hw' => Y_fieldAddr Tryd.underlying69 rfl Tryd.sizeOf3 (by decide) rfl) rfl rfl rfl ?_
              refine VQ_ge rfl rfl rfl hc50 ?_
              refine VQ_y (fun w' hw' => Y_load (El.int (El.kp h57 hw')) Tryd.isAgg3 rfl) rfl rfl rfl ?_
              refine VQ_ge rfl rfl rfl hc50 ?_
              refine VQ_y (fun w' hw' => Y_leq rfl rfl) rfl rfl rfl ?_
              refine VQ_y (fun _ _ => Y_pick_te rfl hc50 rfl) rfl rfl rfl ?_
              obtain rfl := Option.some.inj hs51
              exact VQ_end fun a ha => ⟨(), ha.sub ⟨rfl, rfl, rfl, rfl, rfl, rfl, trivial⟩, trivial⟩
            · rw [if_neg (nt hc50)] at hs51
              refine VQ_gn rfl rfl rfl hc50 rfl rfl rfl ?_
              refine VQ_gn rfl rfl rfl hc50 rfl rfl rfl ?_
              refine VQ_gn rfl rfl rfl hc50 rfl rfl rfl ?_
              refine VQ_gn rfl rfl rfl hc50 rfl rfl rfl ?_
              refine VQ_gn rfl rfl rfl hc50 rfl rfl rfl ?_
              refine VQ_gn rfl rfl rfl hc50 rfl rfl rfl ?_
              refine VQ_gn rfl rfl rfl hc50 rfl rfl rfl ?_
              refine VQ_gn rfl rfl rfl hc50 rfl rfl rfl ?_
              refine VQ_gn rfl rfl rfl hc50 rfl rfl rfl ?_
              refine VQ_y (fun _ _ => Y_pick_fe rfl hc50 rfl) rfl rfl rfl ?_
              obtain rfl := Option.some.inj hs51
              exact VQ_end fun a ha => ⟨(), ha.sub ⟨rfl, rfl, rfl, rfl, rfl, rfl, trivial⟩, trivial⟩
          simp only [List.take, List.drop]
          rintro _ _
          refine VQ_y (fun w' hw' => Y_assign rfl) rfl rfl rfl ?_
          refine VQ_to (fun _ _ => rfl) (fun w58 hk59 => ?_)
          have ht60 := Kp.tr hk59 hA hB
          replace hH := Hp.kp hH hk59
          replace h_l := Sl.tr h_l ht60
          replace h42 := El.tr h42 ht60
          replace hK := Tr.trans hK ht60
          replace hr6 := Tr.trans hr6 ht60
          replace hB := Nat.le_trans hB ht60.ex.size
          replace hA := ht60.new
          refine C_cond rfl (fun hc61 => ?_) (fun hc61 => ?_)
          · rw [if_pos hc61] at h19
            refine C_seq ?_
            refine C_region ?_
            refine V_y (Y_assign rfl) rfl rfl rfl ?_
            refine V_to (fun _ _ => rfl) ?_
            obtain rfl := Option.some.inj h19
            obtain rfl := (h20 : Lp.rt _ = _)
            rw [Lp.andThen_rt] at hm
            obtain rfl := Option.some.inj hm
            refine C_ret ?_
            try simp only [↓inBlock_ret, ↓then_ret]
            exact retQ rfl (Res.one Tryd.results12 rfl) ⟨rfl, hK.kp⟩
          · rw [if_neg (nt hc61)] at h19
            refine C_seq ?_
            refine C_region ?_
            have h62 := El_route_Person_1 h42
            refine V_y (Y_fieldAddr Tryd.underlying69 rfl Tryd.sizeOf3 (by decide) rfl) rfl rfl rfl ?_
            refine V_y (Y_load (El.int h62) Tryd.isAgg3 rfl) rfl rfl rfl ?_
            refine V_y (Y_lss rfl rfl) rfl rfl rfl ?_
            refine V_y (Y_move rfl) rfl rfl rfl ?_
            refine V_cut 4 (fun _ : Unit => [(0, v_l), (4, .pointer (some ⟨b34, 0, none⟩)), (9, v_l), (10, .int .i64 (l.length : Int)), (11, .int .i64 (k7 : Int)), (47, .bool ((decide (x27.capacity < 0)) || (decide ((100 : Int) < x27.capacity))))]) (fun _ w' => w58 = w') ?_ ?_
            · simp only [List.take, List.drop]
              rcases Bool.eq_false_or_eq_true (decide (x27.capacity < 0)) with hc63 | hc63
              · refine V_gn rfl rfl rfl hc63 rfl rfl rfl ?_
                refine V_gn rfl rfl rfl hc63 rfl rfl rfl ?_
                refine V_gn rfl rfl rfl hc63 rfl rfl rfl ?_
                refine V_y (Y_pick_te rfl hc63 rfl) rfl rfl rfl ?_
                exact V_end fun a ha => ⟨(), ha.sub ⟨rfl, rfl, rfl, rfl, rfl, (by rw [hc63]; rfl), trivial⟩, rfl⟩
              · refine V_ge rfl rfl rfl hc63 ?_
                have h65 := El_route_Person_1 h42
                refine V_y (Y_fieldAddr Tryd.underlying69 rfl Tryd.sizeOf3 (by decide) rfl) rfl rfl rfl ?_
                refine V_ge rfl rfl rfl hc63 ?_
                refine V_y (Y_load (El.int h65) Tryd.isAgg3 rfl) rfl rfl rfl ?_
                refine V_ge rfl rfl rfl hc63 ?_
                refine V_y (Y_gtr rfl rfl) rfl rfl rfl ?_
                refine V_y (Y_pick_fe rfl hc63 rfl) rfl rfl rfl ?_
                exact V_end fun a ha => ⟨(), ha.sub ⟨rfl, rfl, rfl, rfl, rfl, (by rw [hc63]; rfl), trivial⟩, rfl⟩
            simp only [List.take, List.drop]
            rintro _ _ rfl
            refine V_y (Y_move rfl) rfl rfl rfl ?_
            refine V_cut 4 (fun _ : Unit => [(0, v_l), (4, .pointer (some ⟨b34, 0, none⟩)), (9, v_l), (10, .int .i64 (l.length : Int)), (11, .int .i64 (k7 : Int)), (52, .bool (((decide (x27.capacity < 0)) || (decide ((100 : Int) < x27.capacity))) || (decide (x27.calendar < 0))))]) (fun _ w' => w58 = w') ?_ ?_
            · simp only [List.take, List.drop]
              rcases Bool.eq_false_or_eq_true (((decide (x27.capacity < 0)) || (decide ((100 : Int) < x27.capacity)))) with hc66 | hc66
              · refine V_gn rfl rfl rfl hc66 rfl rfl rfl ?_
                refine V_gn rfl rfl rfl hc66 rfl rfl rfl ?_
                refine V_gn rfl rfl rfl hc66 rfl rfl rfl ?_
                refine V_y (Y_pick_te rfl hc66 rfl) rfl rfl rfl ?_
                exact V_end fun a ha => ⟨(), ha.sub ⟨rfl, rfl, rfl, rfl, rfl, (by rw [hc66]; rfl), trivial⟩, rfl⟩
              · refine V_ge rfl rfl rfl hc66 ?_
                have h68 := El_route_Person_2 h42
                refine V_y (Y_fieldAddr Tryd.underlying69 rfl Tryd.sizeOf3 (by decide) rfl) rfl rfl rfl ?_
                refine V_ge rfl rfl rfl hc66 ?_
                refine V_y (Y_load (El.int h68) Tryd.isAgg3 rfl) rfl rfl rfl ?_
                refine V_ge rfl rfl rfl hc66 ?_
                refine V_y (Y_lss rfl rfl) rfl rfl rfl ?_
                refine V_y (Y_pick_fe rfl hc66 rfl) rfl rfl rfl ?_
                exact V_end fun a ha => ⟨(), ha.sub ⟨rfl, rfl, rfl, rfl, rfl, (by rw [hc66]; rfl), trivial⟩, rfl⟩
            simp only [List.take, List.drop]
            rintro _ _ rfl
            refine V_y (Y_move rfl) rfl rfl rfl ?_
            refine V_cut 4 (fun _ : Unit => [(0, v_l), (4, .pointer (some ⟨b34, 0, none⟩)), (9, v_l), (10, .int .i64 (l.length : Int)), (11, .int .i64 (k7 : Int)), (57, .bool ((((decide (x27.capacity < 0)) || (decide ((100 : Int) < x27.capacity))) || (decide (x27.calendar < 0))) || (decide ((20 : Int) ≤ x27.calendar))))]) (fun _ w' => w58 = w') ?_ ?_
            · simp only [List.take, List.drop]
              rcases Bool.eq_false_or_eq_true ((((decide (x27.capacity < 0)) || (decide ((100 : Int) < x27.capacity))) || (decide (x27.calendar < 0)))) with hc69 | hc69
              · refine V_gn rfl rfl rfl hc69 rfl rfl rfl ?_
                refine V_gn rfl rfl rfl hc69 rfl rfl rfl ?_
                refine V_gn rfl rfl rfl hc69 rfl rfl rfl ?_
                refine V_y (Y_pick_te rfl hc69 rfl) rfl rfl rfl ?_
                exact V_end fun a ha => ⟨(), ha.sub ⟨rfl, rfl, rfl, rfl, rfl, (by rw [hc69]; rfl), trivial⟩, rfl⟩
              · refine V_ge rfl rfl rfl hc69 ?_
                have h71 := El_route_Person_2 h42
                refine V_y (Y_fieldAddr Tryd.underlying69 rfl Tryd.sizeOf3 (by decide) rfl) rfl rfl rfl ?_
                refine V_ge rfl rfl rfl hc69 ?_
                refine V_y (Y_load (El.int h71) Tryd.isAgg3 rfl) rfl rfl rfl ?_
                refine V_ge rfl rfl rfl hc69 ?_
                refine V_y (Y_geq rfl rfl) rfl rfl rfl ?_
                refine V_y (Y_pick_fe rfl hc69 rfl) rfl rfl rfl ?_
                exact V_end fun a ha => ⟨(), ha.sub ⟨rfl, rfl, rfl, rfl, rfl, (by rw [hc69]; rfl), trivial⟩, rfl⟩
            simp only [List.take, List.drop]
            rintro _ _ rfl
            refine V_y (Y_assign rfl) rfl rfl rfl ?_
            refine V_to (fun _ _ => rfl) ?_
            refine C_cond rfl (fun hc72 => ?_) (fun hc72 => ?_)
            · rw [if_pos hc72] at h19
              refine C_seq ?_
              refine C_region ?_
              refine V_y (Y_assign rfl) rfl rfl rfl ?_
              refine V_to (fun _ _ => rfl) ?_
              obtain rfl := Option.some.inj h19
              obtain rfl := (h20 : Lp.rt _ = _)
              rw [Lp.andThen_rt] at hm
              obtain rfl := Option.some.inj hm
              refine C_ret ?_
              try simp only [↓inBlock_ret, ↓then_ret]
              exact retQ rfl (Res.one Tryd.results12 rfl) ⟨rfl, hK.kp⟩
            · rw [if_neg (nt hc72)] at h19
              refine C_skip_to (fun _ _ => rfl) ?_
              refine C_seq ?_
              refine C_region ?_
              have h73 := El_route_Person_3 h42
              refine V_y (Y_fieldAddr Tryd.underlying69 rfl Tryd.sizeOf67 (by decide) rfl) rfl rfl rfl ?_
              obtain ⟨v74, h75, h76⟩ := El.list h73
              refine V_y (Y_load h75 Tryd.isAgg67 rfl) rfl rfl rfl ?_
              obtain ⟨x77, hx77, h19⟩ := Option.bind_eq_some_iff.1 h19
              refine V_call Tryd.call32 rfl rfl rfl rfl (portref2_skillsFault_c w58 hA x27.skills v74 h76 hx77) ?_
              rintro _ w78 ⟨rfl, hk79⟩
              have ht80 := Kp.tr hk79 hA hB
              replace hH := Hp.kp hH hk79
              replace h_l := Sl.tr h_l ht80
              replace h42 := El.tr h42 ht80
              replace h73 := El.tr h73 ht80
              replace h76 := Sl.tr h76 ht80
              replace hK := Tr.trans hK ht80
              replace hr6 := Tr.trans hr6 ht80
              replace hB := Nat.le_trans hB ht80.ex.size
              replace hA := ht80.new
              refine V_y (Y_assign rfl) rfl rfl rfl ?_
              refine V_to (fun _ _ => rfl) ?_
              refine C_seq ?_
              refine C_region ?_
              refine V_y (Y_move rfl) rfl rfl rfl ?_
              refine V_y (Y_neq rfl rfl) rfl rfl rfl ?_
              refine V_to (fun _ _ => rfl) ?_
              refine C_cond rfl (fun hc81 => ?_) (fun hc81 => ?_)
              · rw [if_pos hc81] at h19
                refine C_seq ?_
                refine C_region ?_
                refine V_y (Y_move rfl) rfl rfl rfl ?_
                refine V_y (Y_assign rfl) rfl rfl rfl ?_
                refine V_to (fun _ _ => rfl) ?_
                obtain rfl := Option.some.inj h19
                obtain rfl := (h20 : Lp.rt _ = _)
                rw [Lp.andThen_rt] at hm
                obtain rfl := Option.some.inj hm
                refine C_ret ?_
                try simp only [↓inBlock_ret, ↓then_ret]
                exact retQ rfl (Res.one Tryd.results12 rfl) ⟨rfl, hK.kp⟩
              · rw [if_neg (nt hc81)] at h19
                refine C_skip_to (fun _ _ => rfl) ?_
                refine C_region ?_
                refine V_y (Y_addI rfl rfl) rfl rfl rfl ?_
                refine V_y (Y_move rfl) rfl rfl rfl ?_
                obtain rfl := Option.some.inj h19
                refine V_end (fun a ha82 => ?_)
                exact ⟨(), hlt22, h20, ⟨A16, ha82.sub ⟨rfl, rfl, rfl, (congrArg (fun z => some (Value.int .i64 z)) (w64_succ hlt22 hn25)), trivial⟩, ⟨hH, hr6⟩⟩⟩
      · refine C_exit (fun a ha83 => ?_)
        exact ⟨((), A16), ha83.sub trivial, ⟨(h23 (eq_of_dec hle21 hc26)).symm, hH, hr6⟩⟩
    rintro ⟨s5, A12⟩ w9 ⟨rfl, hH13, hk10⟩ a ha11
    rw [Lp.andThen_fin] at hm
    replace hK := Tr.trans hK hk10
    replace hB := Nat.le_trans hB hk10.ex.size
    replace hA := hk10.new
    replace hH : Hp w.heap.size A12 w9 ([]) := hH13
    refine C_at (n := ⟨65, [], none⟩) (fun _ _ => rfl) ?_ ha11
    refine C_seq ?_
    refine C_region ?_
    refine V_y (Y_assign rfl) rfl rfl rfl ?_
    refine V_to (fun _ _ => rfl) ?_
    obtain rfl := Option.some.inj hm
    refine C_ret ?_
    try simp only [↓inBlock_ret, ↓then_ret]
    exact retQ rfl (Res.one Tryd.results12 rfl) ⟨rfl, hK.kp⟩

set_option maxRecDepth 4000 in
set_option maxHeartbeats 4000000 in
theorem portref2_line_c (w : World) {A : Nat → Prop} (hA : ∀ b, w.heap.size ≤ b → A b) (hT : Tb Tryd.prog A w) (words : (List AnyV)) (v_words : Value) (h_words : Sl A w v_words words) {r : ByteArray} (hm : portref2_line words = some r) : Ret Tryd.prog 23 #[v_words] w fun v w' => v = .string r ∧ Kp w w' := by
  unfold portref2_line at hm
  refine enter Tryd.func23 rfl Tryd.ntmps23 rfl ?_
  have hA0 := hA
  have hB := Nat.le_refl w.heap.size
  have hK : Tr w.heap.size A w A w := Tr.refl hA
  have hH : Hp w.heap.size A w [] := Hp.nil
  refine C_seq ?_
  refine C_region ?_
  refine V_y (Y_assign rfl) rfl rfl rfl ?_
  refine V_to (fun _ _ => rfl) ?_
  refine C_seq ?_
  refine C_region ?_
  refine V_y (Y_assign rfl) rfl rfl rfl ?_
  refine V_to (fun _ _ => rfl) ?_
  refine C_seq ?_
  refine C_seq ?_
  refine C_region ?_
  refine V_y (Y_move rfl) rfl rfl rfl ?_
  refine V_y (Y_lenSl h_words rfl Tryd.underlying63 rfl) rfl rfl rfl ?_
  refine V_y (Y_move rfl) rfl rfl rfl ?_
  refine V_to (fun _ _ => rfl) ?_
  replace hH : Hp w.heap.size A w (obS (α := ByteArray) 9 (.slice none 0 0) ([] : (List ByteArray)) :: []) := Hp.addNil (α := ByteArray) (e := 9) hH
  have hn27 := Sl.le h_words
  obtain ⟨o3, ho3, hm⟩ := Option.bind_eq_some_iff.1 hm
  refine C_cutG (ι := ((List ByteArray) × Value × (Nat → Prop))) (fun ⟨s4, v10, A12⟩ => [(3, v10)]) (fun ⟨s4, v10, A12⟩ => fun w' => o3 = .fin s4 ∧ Hp w.heap.size A12 w' (obS (α := ByteArray) 9 v10 s4 :: []) ∧ Tr w.heap.size A w A12 w') ?_ ?_
  · refine C_block ?_
    refine C_range ho3 (fun k6 s14 a w' => ∃ i : (Value × (Nat → Prop)), Has ⟨34, [], none⟩ a ([(3, i.1), (8, v_words), (9, .int .i64 (words.length : Int)), (10, .int .i64 (k6 : Int))]) ∧ Hp w.heap.size i.2 w' (obS (α := ByteArray) 9 i.1 s14 :: []) ∧ Tr w.heap.size A w i.2 w') (fun a ha => ⟨(.slice none 0 0, A), ha.sub ⟨rfl, rfl, rfl, rfl, trivial⟩, ⟨hH, Tr.refl hA⟩⟩) ?_
    rintro K k6 s14 a w15 ⟨⟨v16, A18⟩, ha109, hH19, hr5⟩ hle23 K26 h25
    refine C_of ?_ ha109
    replace h_words := Sl.tr h_words hr5
    replace hK := Tr.trans hK hr5
    replace hB := Nat.le_trans hB hr5.ex.size
    replace hA := hr5.new
    replace hH : Hp w.heap.size A18 w15 (obS (α := ByteArray) 9 v16 s14 :: []) := hH19
    refine C_seq (C_region (V_y (Y_lss rfl rfl) rfl rfl rfl (V_to (fun _ _ => rfl) ?_)))
    refine C_seq ?_
    refine C_cond rfl (fun hc28 => ?_) (fun hc28 => ?_)
    · have hlt24 := lt_of_dec hc28
      obtain ⟨x20, h21, h22⟩ := K26 hlt24
      refine C_skip_to (fun _ _ => rfl) ?_
      refine C_seq ?_
      obtain ⟨s30, ho29, h21⟩ := Option.bind_eq_some_iff.1 h21
      refine C_cutG (ι := (Value × (Nat → Prop))) (fun ⟨v32, A37⟩ => [(3, v32), (8, v_words), (9, .int .i64 (words.length : Int)), (10, .int .i64 (k6 : Int))]) (fun ⟨v32, A37⟩ => fun w' => Hp w.heap.size A37 w' (obS (α := ByteArray) 9 v32 s30 :: []) ∧ Tr w.heap.size A18 w15 A37 w') ?_ ?_
      · have hr31 : Tr w.heap.size A18 w15 A18 w15 := Tr.refl hA
        refine C_block ?_
        refine C_seq ?_
        refine C_region ?_
        obtain ⟨x39, hx39, ho29⟩ := Option.bind_eq_some_iff.1 ho29
        refine V_indexAddr h_words hx39 Tryd.underlying63 Tryd.sizeOf20 rfl rfl rfl ?_
        intro b40 o41 h42
        refine V_y (Y_load (El.anyv h42) Tryd.isAgg20 rfl) rfl rfl rfl ?_
        refine V_y (Y_assign rfl) rfl rfl rfl ?_
        refine V_to (fun _ _ => rfl) ?_
        refine C_seq ?_
        refine C_region ?_
        refine V_y (Y_move rfl) rfl rfl rfl ?_
        refine V_to (fun _ _ => rfl) ?_
        obtain ⟨s44, ho43, ho29⟩ := Option.bind_eq_some_iff.1 ho29
        refine C_cutG (ι := (Value × (Nat → Prop))) (fun ⟨v46, A51⟩ => [(3, v46), (8, v_words), (9, .int .i64 (words.length : Int)), (10, .int .i64 (k6 : Int))]) (fun ⟨v46, A51⟩ => fun w' => Hp w.heap.size A51 w' (obS (α := ByteArray) 9 v46 s44 :: []) ∧ Tr w.heap.size A18 w15 A51 w') ?_ ?_
        · have hr45 : Tr w.heap.size A18 w15 A18 w15 := Tr.refl hA
          refine C_block ?_
          refine C_seq ?_
          refine C_region ?_
          refine V_y (Y_asStr (ti := 3) Tryd.underlying9 Tryd.zeroValue9 (by decide) rfl) rfl rfl rfl ?_
          refine V_y (Y_extract rfl rfl) rfl rfl rfl ?_
          refine V_y (Y_extract rfl rfl) rfl rfl rfl ?_
          refine V_to (fun _ _ => rfl) ?_
          obtain ⟨s54, ho53, ho43⟩ := Option.bind_eq_some_iff.1 ho43
          refine C_cutG (ι := (Value × (Nat → Prop))) (fun ⟨v56, A61⟩ => [(3, v56), (8, v_words), (9, .int .i64 (words.length : Int)), (10, .int .i64 (k6 : Int))]) (fun ⟨v56, A61⟩ => fun w' => Hp w.heap.size A61 w' (obS (α := ByteArray) 9 v56 s54 :: []) ∧ Tr w.heap.size A18 w15 A61 w') ?_ ?_
          · have hr55 : Tr w.heap.size A18 w15 A18 w15 := Tr.refl hA
            refine C_cond rfl (fun hc63 => ?_) (fun hc63 => ?_)
            · rw [if_pos hc63] at ho53
              refine C_seq ?_
              refine C_region ?_
              refine V_y (Y_assign rfl) rfl rfl rfl ?_
              refine V_to (fun _ _ => rfl) ?_
              refine C_region ?_
              refine V_y (Y_move rfl) rfl rfl rfl ?_
              refine V_y (Y_move rfl) rfl rfl rfl ?_
              refine V_buildSlice (l := ([x39.asStr.1] : List ByteArray)) (len := 1) Tryd.underlying70 Tryd.sizeOf9 Tryd.zeroValue9 rfl (by with_unfolding_all rfl) (by decide) (by decide) hA ⟨[.string x39.asStr.1], _, rfl, rfl, rfl⟩ rfl rfl ?_
              intro v64 w65 hk67 h66
              have ht68 := Kp.tr hk67 hA hB
              replace hH := Hp.kp hH hk67
              replace h_words := Sl.tr h_words ht68
              replace hK := Tr.trans hK ht68
              replace hr5 := Tr.trans hr5 ht68
              replace hr31 := Tr.trans hr31 ht68
              replace hr45 := Tr.trans hr45 ht68
              replace hr55 := Tr.trans hr55 ht68
              replace hB := Nat.le_trans hB ht68.ex.size
              replace hA := ht68.new
              obtain ⟨x69, hx69, ho53⟩ := Option.bind_eq_some_iff.1 ho53
              refine V_appendH (e := 9) (v := v16) (l := s14) (ti := Tryd.t9) (bytes := 16) (lim := 8796093022208) hH (i := 0) rfl h66 hx69 Tryd.underlying70 Tryd_info9 rfl rfl rfl rfl (by decide) (by decide) (by decide) hB hA rfl rfl rfl ?_
              intro v70 w71 A72 hH73 ht74
              replace h_words := Sl.tr h_words ht74
              replace h66 := Sl.tr h66 ht74
              replace hK := Tr.trans hK ht74
              replace hr5 := Tr.trans hr5 ht74
              replace hr31 := Tr.trans hr31 ht74
              replace hr45 := Tr.trans hr45 ht74
              replace hr55 := Tr.trans hr55 ht74
              replace hB := Nat.le_trans hB ht74.ex.size
              replace hA := ht74.new
              replace hH : Hp w.heap.size A72 w71 (obS (α := ByteArray) 9 v70 x69 :: []) := hH73
              refine V_y (Y_assign rfl) rfl rfl rfl ?_
              obtain rfl := Option.some.inj ho53
              refine V_end (fun a ha75 => ?_)
              exact ⟨(v70, A72), ha75.sub ⟨rfl, rfl, rfl, rfl, trivial⟩, ⟨hH, hr55⟩⟩
            · rw [if_neg (nt hc63)] at ho53
              refine C_seq ?_
              refine C_region ?_
              refine V_y (Y_asInt (ts := 9) Tryd.underlying3 Tryd.zeroValue3 (by decide) rfl) rfl rfl rfl ?_
              refine V_y (Y_extract rfl rfl) rfl rfl rfl ?_
              refine V_y (Y_extract rfl rfl) rfl rfl rfl ?_
              refine V_to (fun _ _ => rfl) ?_
              obtain ⟨s77, ho76, ho53⟩ := Option.bind_eq_some_iff.1 ho53
              refine C_cutG (ι := (Value × (Nat → Prop))) (fun ⟨v79, A84⟩ => [(3, v79), (8, v_words), (9, .int .i64 (words.length : Int)), (10, .int .i64 (k6 : Int))]) (fun ⟨v79, A84⟩ => fun w' => Hp w.heap.size A84 w' (obS (α := ByteArray) 9 v79 s77 :: []) ∧ Tr w.heap.size A18 w15 A84 w') ?_ ?_
              · have hr78 : Tr w.heap.size A18 w15 A18 w15 := Tr.refl hA
                refine C_cond rfl (fun hc86 => ?_) (fun hc86 => ?_)
                · rw [if_pos hc86] at ho76
                  refine C_seq ?_
                  refine C_region ?_
                  refine V_y (Y_assign rfl) rfl rfl rfl ?_
                  refine V_to (fun _ _ => rfl) ?_
                  refine C_region ?_
                  refine V_y (Y_move rfl) rfl rfl rfl ?_
                  refine V_y (Y_move rfl) rfl rfl rfl ?_
                  obtain ⟨x87, hx87, ho76⟩ := Option.bind_eq_some_iff.1 ho76
                  refine V_call Tryd.call19 rfl rfl rfl rfl (strconv_Itoa_c w15 hA (Tb.tr hT hK) x39.asInt.1 hx87) ?_
                  rintro _ w88 ⟨rfl, hk89⟩
                  have ht90 := Kp.tr hk89 hA hB
                  replace hH := Hp.kp hH hk89
                  replace h_words := Sl.tr h_words ht90
                  replace hK := Tr.trans hK ht90
                  replace hr5 := Tr.trans hr5 ht90
                  replace hr31 := Tr.trans hr31 ht90
                  replace hr45 := Tr.trans hr45 ht90
                  replace hr55 := Tr.trans hr55 ht90
                  replace hr78 := Tr.trans hr78 ht90
                  replace hB := Nat.le_trans hB ht90.ex.size
                  replace hA := ht90.new
                  refine V_buildSlice (l := ([x87] : List ByteArray)) (len := 1) Tryd.underlying70 Tryd.sizeOf9 Tryd.zeroValue9 rfl (by with_unfolding_all rfl) (by decide) (by decide) hA ⟨[.string x87], _, rfl, rfl, rfl⟩ rfl rfl ?_
                  intro v91 w92 hk94 h93
                  have ht95 := Kp.tr hk94 hA hB
                  replace hH := Hp.kp hH hk94
                  replace h_words := Sl.tr h_words ht95
                  replace hK := Tr.trans hK ht95
                  replace hr5 := Tr.trans hr5 ht95
                  replace hr31 := Tr.trans hr31 ht95
                  replace hr45 := Tr.trans hr45 ht95
                  replace hr55 := Tr.trans hr55 ht95
                  replace hr78 := Tr.trans hr78 ht95
                  replace hB := Nat.le_trans hB ht95.ex.size
                  replace hA := ht95.new
                  obtain ⟨x96, hx96, ho76⟩ := Option.bind_eq_some_iff.1 ho76
                  refine V_appendH (e := 9) (v := v16) (l := s14) (ti := Tryd.t9) (bytes := 16) (lim := 8796093022208) hH (i := 0) rfl h93 hx96 Tryd.underlying70 Tryd_info9 rfl rfl rfl rfl (by decide) (by decide) (by decide) hB hA rfl rfl rfl ?_
                  intro v97 w98 A99 hH100 ht101
                  replace h_words := Sl.tr h_words ht101
                  replace h93 := Sl.tr h93 ht101
                  replace hK := Tr.trans hK ht101
                  replace hr5 := Tr.trans hr5 ht101
                  replace hr31 := Tr.trans hr31 ht101
                  replace hr45 := Tr.trans hr45 ht101
                  replace hr55 := Tr.trans hr55 ht101
                  replace hr78 := Tr.trans hr78 ht101
                  replace hB := Nat.le_trans hB ht101.ex.size
                  replace hA := ht101.new
                  replace hH : Hp w.heap.size A99 w98 (obS (α := ByteArray) 9 v97 x96 :: []) := hH100
                  refine V_y (Y_assign rfl) rfl rfl rfl ?_
                  obtain rfl := Option.some.inj ho76
                  refine V_end (fun a ha102 => ?_)
                  exact ⟨(v97, A99), ha102.sub ⟨rfl, rfl, rfl, rfl, trivial⟩, ⟨hH, hr78⟩⟩
                · rw [if_neg (nt hc86)] at ho76
                  obtain rfl := Option.some.inj ho76
                  refine C_skip (fun a ha103 => ?_)
                  exact ⟨(v16, A18), ha103.sub ⟨rfl, rfl, rfl, rfl, trivial⟩, ⟨hH, hr78⟩⟩
              rintro ⟨v79, A84⟩ w81 ⟨hH85, hk82⟩ a ha83
              replace h_words := Sl.tr h_words hk82
              replace hK := Tr.trans hK hk82
              replace hr5 := Tr.trans hr5 hk82
              replace hr31 := Tr.trans hr31 hk82
              replace hr45 := Tr.trans hr45 hk82
              replace hr55 := Tr.trans hr55 hk82
              replace hB := Nat.le_trans hB hk82.ex.size
              replace hA := hk82.new
              replace hH : Hp w.heap.size A84 w81 (obS (α := ByteArray) 9 v79 s77 :: []) := hH85
              obtain rfl := Option.some.inj ho53
              exact ⟨(v79, A84), ha83.sub ⟨rfl, rfl, rfl, rfl, trivial⟩, ⟨hH, hr55⟩⟩
          rintro ⟨v56, A61⟩ w58 ⟨hH62, hk59⟩ a ha60
          replace h_words := Sl.tr h_words hk59
          replace hK := Tr.trans hK hk59
          replace hr5 := Tr.trans hr5 hk59
          replace hr31 := Tr.trans hr31 hk59
          replace hr45 := Tr.trans hr45 hk59
          replace hB := Nat.le_trans hB hk59.ex.size
          replace hA := hk59.new
          replace hH : Hp w.heap.size A61 w58 (obS (α := ByteArray) 9 v56 s54 :: []) := hH62
          obtain rfl := Option.some.inj ho43
          exact ⟨(v56, A61), ha60.sub ⟨rfl, rfl, rfl, rfl, trivial⟩, ⟨hH, hr45⟩⟩
        rintro ⟨v46, A51⟩ w48 ⟨hH52, hk49⟩ a ha50
        replace h_words := Sl.tr h_words hk49
        replace hK := Tr.trans hK hk49
        replace hr5 := Tr.trans hr5 hk49
        replace hr31 := Tr.trans hr31 hk49
        replace hB := Nat.le_trans hB hk49.ex.size
        replace hA := hk49.new
        replace hH : Hp w.heap.size A51 w48 (obS (α := ByteArray) 9 v46 s44 :: []) := hH52
        obtain rfl := Option.some.inj ho29
        exact ⟨(v46, A51), ha50.sub ⟨rfl, rfl, rfl, rfl, trivial⟩, ⟨hH, hr31⟩⟩
      rintro ⟨v32, A37⟩ w34 ⟨hH38, hk35⟩ a ha36
      replace h_words := Sl.tr h_words hk35
      replace hK := Tr.trans hK hk35
      replace hr5 := Tr.trans hr5 hk35
      replace hB := Nat.le_trans hB hk35.ex.size
      replace hA := hk35.new
      replace hH : Hp w.heap.size A37 w34 (obS (α := ByteArray) 9 v32 s30 :: []) := hH38
      refine C_at (n := ⟨34, [], none⟩) (fun _ _ => rfl) ?_ ha36
      refine C_region ?_
      refine V_y (Y_addI rfl rfl) rfl rfl rfl ?_
      refine V_y (Y_move rfl) rfl rfl rfl ?_
      obtain rfl := Option.some.inj h21
      refine V_end (fun a ha107 => ?_)
      exact ⟨s30, hlt24, h22, ⟨(v32, A37), ha107.sub ⟨rfl, rfl, rfl, (congrArg (fun z => some (Value.int .i64 z)) (w64_succ hlt24 hn27)), trivial⟩, ⟨hH, hr5⟩⟩⟩
    · refine C_exit (fun a ha108 => ?_)
      exact ⟨(s14, v16, A18), ha108.sub ⟨rfl, trivial⟩, ⟨(h25 (eq_of_dec hle23 hc28)).symm, hH, hr5⟩⟩
  rintro ⟨s4, v10, A12⟩ w7 ⟨rfl, hH13, hk8⟩ a ha9
  rw [Lp.andThen_fin] at hm
  replace hK := Tr.trans hK hk8
  replace hB := Nat.le_trans hB hk8.ex.size
  replace hA := hk8.new
  replace hH : Hp w.heap.size A12 w7 (obS (α := ByteArray) 9 v10 s4 :: []) := hH13
  refine C_at (n := ⟨34, [], none⟩) (fun _ _ => rfl) ?_ ha9
  refine C_seq ?_
  refine C_region ?_
  refine V_y (Y_move rfl) rfl rfl rfl ?_
  obtain ⟨x110, hx110, hm⟩ := Option.bind_eq_some_iff.1 hm
  refine V_call Tryd.call29 rfl rfl rfl rfl (strings_Join_c w7 (A := fun _ => True) (fun _ _ => trivial) s4 v10 (Hp.any (α := ByteArray) (e := 9) (v := v10) (l := s4) hH (i := 0) rfl) (⟨#[32]⟩ : ByteArray) hx110) ?_
  rintro _ w111 ⟨rfl, hk112⟩
  have ht113 := Kp.tr hk112 hA hB
  replace hH := Hp.kp hH hk112
  replace hK := Tr.trans hK ht113
  replace hB := Nat.le_trans hB ht113.ex.size
  replace hA := ht113.new
  obtain ⟨x114, hx114, hm⟩ := Option.bind_eq_some_iff.1 hm
  refine V_y (Y_sadd hx114 rfl rfl) rfl rfl rfl ?_
  refine V_y (Y_assign rfl) rfl rfl rfl ?_
  refine V_to (fun _ _ => rfl) ?_
  obtain rfl := Option.some.inj hm
  refine C_ret ?_
  try simp only [↓inBlock_ret, ↓then_ret]
  exact retQ rfl (Res.one Tryd.results23 rfl) ⟨rfl, hK.kp⟩

end Go.Proofs.YthhgggkhlcnbhaaDoor.W
