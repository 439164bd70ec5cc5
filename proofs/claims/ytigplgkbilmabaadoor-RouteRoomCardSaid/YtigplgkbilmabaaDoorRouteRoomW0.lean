/-
  Written by program (gen.py) from the IR of the dump: each function computes its model.
-/
import Derived.Test.YtigplgkbilmabaaDoorProg
import Derived.Test.YtigplgkbilmabaaDoorGe
import Derived.Test.YtigplgkbilmabaaDoorRouteRoomM
import Derived.KernelRfl
import Derived.Shelf.Strings.SlTrimAscii
namespace Go.Proofs.YtigplgkbilmabaaDoor.W
open Go Go.RowKit Go.Pu Go.Gw Go.Proofs Go.Proofs.YtigplgkbilmabaaDoor.M
set_option linter.unusedVariables false
set_option linter.unusedSimpArgs false

theorem Tryd_info3 : Tryd.prog.info? 3 = some Tryd.t3 := by kernel_rfl
theorem Tryd_mixed : Tryd.prog.follows .mixedOrders = true := by kernel_rfl

instance : GoT route_Skill := GoT.of (β := ByteArray × Int) fun x => (x.name, x.rank)

instance : Flat route_Skill := ⟨fun {A w A1 w1 cs x} h => Flat.flat (α := ByteArray × Int) (x := (x.name, x.rank)) (A := A) (w := w) h⟩

theorem El_route_Skill_ {A : Nat → Prop} {w : World} {b off : Nat} {x : route_Skill} (h : El A w b off x) : El (α := ByteArray × Int) A w b off (x.name, x.rank) := h

theorem El_route_Skill_0 {A : Nat → Prop} {w : World} {b off : Nat} {x : route_Skill} (h : El A w b off x) : El A w b (off + 0) x.name := El.fst (El_route_Skill_ h)

theorem El_route_Skill_1 {A : Nat → Prop} {w : World} {b off : Nat} {x : route_Skill} (h : El A w b off x) : El A w b (off + 1) x.rank := El.snd (El_route_Skill_ h)

theorem El_route_Skill {A : Nat → Prop} {w : World} {b off : Nat} {x : route_Skill} (h : El A w b off x) : At w b off [.string x.name, .int .i64 x.rank] ∧ True := by
  obtain ⟨h1, h2, cs, h3, h4⟩ := h
  obtain ⟨_, _, rfl, rfl, rfl⟩ := h3
  exact ⟨h4, trivial⟩

instance : GoT route_Person := GoT.of (β := Int × Int × Int × (List route_Skill)) fun x => (x.no, x.capacity, x.calendar, x.skills)

theorem El_route_Person_ {A : Nat → Prop} {w : World} {b off : Nat} {x : route_Person} (h : El A w b off x) : El (α := Int × Int × Int × (List route_Skill)) A w b off (x.no, x.capacity, x.calendar, x.skills) := h

theorem El_route_Person_0 {A : Nat → Prop} {w : World} {b off : Nat} {x : route_Person} (h : El A w b off x) : El A w b (off + 0) x.no := El.fst (El_route_Person_ h)

theorem El_route_Person_1 {A : Nat → Prop} {w : World} {b off : Nat} {x : route_Person} (h : El A w b off x) : El A w b (off + 1) x.capacity := El.fst (El.snd (El_route_Person_ h))

theorem El_route_Person_2 {A : Nat → Prop} {w : World} {b off : Nat} {x : route_Person} (h : El A w b off x) : El A w b (off + 2) x.calendar := El.fst (El.snd (El.snd (El_route_Person_ h)))

theorem El_route_Person_3 {A : Nat → Prop} {w : World} {b off : Nat} {x : route_Person} (h : El A w b off x) : El A w b (off + 3) x.skills := El.snd (El.snd (El.snd (El_route_Person_ h)))

theorem El_route_Person {A : Nat → Prop} {w : World} {b off : Nat} {x : route_Person} (h : El A w b off x) : ∃ v1, At w b off [.int .i64 x.no, .int .i64 x.capacity, .int .i64 x.calendar, v1] ∧ Sl A w v1 x.skills := by
  obtain ⟨h1, h2, cs, h3, h4⟩ := h
  obtain ⟨_, _, rfl, rfl, ⟨_, _, rfl, rfl, ⟨_, _, rfl, rfl, ⟨u1, rfl, g1⟩⟩⟩⟩ := h3
  exact ⟨u1, h4, g1⟩

instance : GoT route_Held := GoT.of (β := Int × Int × Int × Int) fun x => (x.ticket, x.person, x.weight, x.since)

instance : Flat route_Held := ⟨fun {A w A1 w1 cs x} h => Flat.flat (α := Int × Int × Int × Int) (x := (x.ticket, x.person, x.weight, x.since)) (A := A) (w := w) h⟩

theorem El_route_Held_ {A : Nat → Prop} {w : World} {b off : Nat} {x : route_Held} (h : El A w b off x) : El (α := Int × Int × Int × Int) A w b off (x.ticket, x.person, x.weight, x.since) := h

theorem El_route_Held_0 {A : Nat → Prop} {w : World} {b off : Nat} {x : route_Held} (h : El A w b off x) : El A w b (off + 0) x.ticket := El.fst (El_route_Held_ h)

theorem El_route_Held_1 {A : Nat → Prop} {w : World} {b off : Nat} {x : route_Held} (h : El A w b off x) : El A w b (off + 1) x.person := El.fst (El.snd (El_route_Held_ h))

theorem El_route_Held_2 {A : Nat → Prop} {w : World} {b off : Nat} {x : route_Held} (h : El A w b off x) : El A w b (off + 2) x.weight := El.fst (El.snd (El.snd (El_route_Held_ h)))

theorem El_route_Held_3 {A : Nat → Prop} {w : World} {b off : Nat} {x : route_Held} (h : El A w b off x) : El A w b (off + 3) x.since := El.snd (El.snd (El.snd (El_route_Held_ h)))

theorem El_route_Held {A : Nat → Prop} {w : World} {b off : Nat} {x : route_Held} (h : El A w b off x) : At w b off [.int .i64 x.ticket, .int .i64 x.person, .int .i64 x.weight, .int .i64 x.since] ∧ True := by
  obtain ⟨h1, h2, cs, h3, h4⟩ := h
  obtain ⟨_, _, rfl, rfl, ⟨_, _, rfl, rfl, ⟨_, _, rfl, rfl, rfl⟩⟩⟩ := h3
  exact ⟨h4, trivial⟩

set_option maxRecDepth 4000 in
set_option maxHeartbeats 4000000 in
theorem route_within_c (w : World) (n : Int) (low : Int) (high : Int) : Ret Tryd.prog 39 #[.int .i64 n, .int .i64 low, .int .i64 high] w fun v w' => v = .bool (route_within n low high) ∧ w = w' := by
  generalize hm : route_within n low high = r
  unfold route_within at hm
  refine enter Tryd.func39 rfl Tryd.ntmps39 rfl ?_
  refine C_seq ?_
  refine C_region ?_
  refine V_y (Y_assign rfl) rfl rfl rfl ?_
  refine V_to (fun _ _ => rfl) ?_
  refine C_seq ?_
  refine C_region ?_
  refine V_y (Y_move rfl) rfl rfl rfl ?_
  refine V_y (Y_move rfl) rfl rfl rfl ?_
  refine V_y (Y_geq rfl rfl) rfl rfl rfl ?_
  refine V_y (Y_move rfl) rfl rfl rfl ?_
  refine V_cut 4 (fun _ : Unit => [(14, .bool ((decide (low ≤ n)) && (decide (n ≤ high))))]) (fun _ w' => w = w') ?_ ?_
  · simp only [List.take, List.drop]
    rcases Bool.eq_false_or_eq_true (decide (low ≤ n)) with hc1 | hc1
    · refine V_ge rfl rfl rfl hc1 ?_
      refine V_y (Y_move rfl) rfl rfl rfl ?_
      refine V_ge rfl rfl rfl hc1 ?_
      refine V_y (Y_move rfl) rfl rfl rfl ?_
      refine V_ge rfl rfl rfl hc1 ?_
      refine V_y (Y_leq rfl rfl) rfl rfl rfl ?_
      refine V_y (Y_pick_te rfl hc1 rfl) rfl rfl rfl ?_
      exact V_end fun a ha => ⟨(), ha.sub ⟨(by rw [hc1]; rfl), trivial⟩, rfl⟩
    · refine V_gn rfl rfl rfl hc1 rfl rfl rfl ?_
      refine V_gn rfl rfl rfl hc1 rfl rfl rfl ?_
      refine V_gn rfl rfl rfl hc1 rfl rfl rfl ?_
      refine V_y (Y_pick_fe rfl hc1 rfl) rfl rfl rfl ?_
      exact V_end fun a ha => ⟨(), ha.sub ⟨(by rw [hc1]; rfl), trivial⟩, rfl⟩
  simp only [List.take, List.drop]
  rintro _ _ rfl
  refine V_y (Y_assign rfl) rfl rfl rfl ?_
  refine V_to (fun _ _ => rfl) ?_
  obtain rfl := hm
  refine C_ret ?_
  try simp only [↓inBlock_ret, ↓then_ret]
  exact retQ rfl (Res.one Tryd.results39 rfl) ⟨rfl, rfl⟩

set_option maxRecDepth 4000 in
set_option maxHeartbeats 4000000 in
theorem route_name_c (w : World) (s : ByteArray) {r : Bool} (hm : route_name s = some r) : Ret Tryd.prog 45 #[.string s] w fun v w' => v = .bool r ∧ w = w' := by
  unfold route_name at hm
  refine enter Tryd.func45 rfl Tryd.ntmps45 rfl ?_
  refine C_seq ?_
  refine C_region ?_
  refine V_y (Y_assign rfl) rfl rfl rfl ?_
  refine V_to (fun _ _ => rfl) ?_
  refine C_seq ?_
  refine C_seq ?_
  refine C_region ?_
  refine V_y (Y_move rfl) rfl rfl rfl ?_
  refine V_y (Y_lenStr rfl Tryd.underlying9 rfl) rfl rfl rfl ?_
  refine V_y (Y_move rfl) rfl rfl rfl ?_
  refine V_to (fun _ _ => rfl) ?_
  obtain ⟨o1, ho1, hm⟩ := Option.bind_eq_some_iff.1 hm
  refine C_cutG (ι := Int) (fun (s2 : Int) => [(0, .string s)]) (fun (s2 : Int) => fun w' => o1 = .fin s2 ∧ w = w') ?_ ?_
  · refine C_block ?_
    refine C_while ho1 (fun s8 a w' => ∃ i : Unit, Has ⟨41, [], none⟩ a ([(0, .string s), (6, .int .i64 (s.size : Int)), (7, .int .i64 s8)]) ∧ w = w') (fun a ha => ⟨(), ha.sub ⟨rfl, rfl, rfl, trivial⟩, rfl⟩) ?_
    rintro K s8 a _ ⟨_, ha30, rfl⟩ K16
    refine C_of ?_ ha30
    obtain ⟨x10, h11, h12⟩ := K16
    refine C_seq ?_
    refine C_region ?_
    refine V_y (Y_lss rfl rfl) rfl rfl rfl ?_
    refine V_to (fun _ _ => rfl) ?_
    refine C_seq ?_
    refine C_cond rfl (fun hc17 => ?_) (fun hc17 => ?_)
    · rw [if_pos hc17] at h11
      refine C_skip_to (fun _ _ => rfl) ?_
      refine C_seq ?_
      refine C_block ?_
      refine C_seq ?_
      refine C_region ?_
      refine V_y (Y_move rfl) rfl rfl rfl ?_
      refine V_y (Y_assign rfl) rfl rfl rfl ?_
      refine V_to (fun _ _ => rfl) ?_
      refine C_seq ?_
      refine C_region ?_
      refine V_y (Y_move rfl) rfl rfl rfl ?_
      refine V_y (Y_move rfl) rfl rfl rfl ?_
      obtain ⟨x18, hx18, h11⟩ := Option.bind_eq_some_iff.1 h11
      refine V_y (Y_indexS hx18 Tryd.underlying9 rfl rfl) rfl rfl rfl ?_
      refine V_y (Y_assign rfl) rfl rfl rfl ?_
      refine V_to (fun _ _ => rfl) ?_
      refine C_seq ?_
      refine C_region ?_
      refine V_y (Y_move rfl) rfl rfl rfl ?_
      refine V_y (Y_geq rfl rfl) rfl rfl rfl ?_
      refine V_y (Y_move rfl) rfl rfl rfl ?_
      refine V_cut 3 (fun _ : Unit => [(0, .string s), (4, .int .u8 (x18.toNat : Int)), (6, .int .i64 (s.size : Int)), (7, .int .i64 s8), (18, .bool ((decide ((97 : Int) ≤ (x18.toNat : Int))) && (decide ((x18.toNat : Int) ≤ 122))))]) (fun _ w' => w = w') ?_ ?_
      · simp only [List.take, List.drop]
        rcases Bool.eq_false_or_eq_true (decide ((97 : Int) ≤ (x18.toNat : Int))) with hc19 | hc19
        · refine V_ge rfl rfl rfl hc19 ?_
          refine V_y (Y_move rfl) rfl rfl rfl ?_
          refine V_ge rfl rfl rfl hc19 ?_
          refine V_y (Y_leq rfl rfl) rfl rfl rfl ?_
          refine V_y (Y_pick_te rfl hc19 rfl) rfl rfl rfl ?_
          exact V_end fun a ha => ⟨(), ha.sub ⟨rfl, rfl, rfl, rfl, (by rw [hc19]; rfl), trivial⟩, rfl⟩
        · refine V_gn rfl rfl rfl hc19 rfl rfl rfl ?_
          refine V_gn rfl rfl rfl hc19 rfl rfl rfl ?_
          refine V_y (Y_pick_fe rfl hc19 rfl) rfl rfl rfl ?_
          exact V_end fun a ha => ⟨(), ha.sub ⟨rfl, rfl, rfl, rfl, (by rw [hc19]; rfl), trivial⟩, rfl⟩
      simp only [List.take, List.drop]
      rintro _ _ rfl
      refine V_y (Y_not rfl) rfl rfl rfl ?_
      refine V_y (Y_move rfl) rfl rfl rfl ?_
      refine V_cut 8 (fun _ : Unit => [(0, .string s), (4, .int .u8 (x18.toNat : Int)), (6, .int .i64 (s.size : Int)), (7, .int .i64 s8), (28, .bool ((!((decide ((97 : Int) ≤ (x18.toNat : Int))) && (decide ((x18.toNat : Int) ≤ 122)))) && (!((decide ((48 : Int) ≤ (x18.toNat : Int))) && (decide ((x18.toNat : Int) ≤ 57))))))]) (fun _ w' => w = w') ?_ ?_
      · simp only [List.take, List.drop]
        rcases Bool.eq_false_or_eq_true (!((decide ((97 : Int) ≤ (x18.toNat : Int))) && (decide ((x18.toNat : Int) ≤ 122)))) with hc21 | hc21
        · refine V_ge rfl rfl rfl hc21 ?_
          refine V_y (Y_move rfl) rfl rfl rfl ?_
          refine V_ge rfl rfl rfl hc21 ?_
          refine V_y (Y_geq rfl rfl) rfl rfl rfl ?_
          refine V_ge rfl rfl rfl hc21 ?_
          refine V_y (Y_move rfl) rfl rfl rfl ?_
          refine V_cut 3 (fun _ : Unit => [(0, .string s), (4, .int .u8 (x18.toNat : Int)), (6, .int .i64 (s.size : Int)), (7, .int .i64 s8), (20, .bool (!((decide ((97 : Int) ≤ (x18.toNat : Int))) && (decide ((x18.toNat : Int) ≤ 122))))), (26, .bool ((decide ((48 : Int) ≤ (x18.toNat : Int))) && (decide ((x18.toNat : Int) ≤ 57))))]) (fun _ w' => w = w') ?_ ?_
          · simp only [List.take, List.drop]
            rcases Bool.eq_false_or_eq_true (decide ((48 : Int) ≤ (x18.toNat : Int))) with hc23 | hc23
            · refine V_ge rfl rfl rfl hc23 ?_
              refine V_y (Y_move rfl) rfl rfl rfl ?_
              refine V_ge rfl rfl rfl hc23 ?_
              refine V_y (Y_leq rfl rfl) rfl rfl rfl ?_
              refine V_ge rfl rfl rfl hc21 ?_
              refine V_y (Y_pick_te rfl hc23 rfl) rfl rfl rfl ?_
              exact V_end fun a ha => ⟨(), ha.sub ⟨rfl, rfl, rfl, rfl, rfl, (by rw [hc23]; rfl), trivial⟩, rfl⟩
            · refine V_gn rfl rfl rfl hc23 rfl rfl rfl ?_
              refine V_gn rfl rfl rfl hc23 rfl rfl rfl ?_
              refine V_ge rfl rfl rfl hc21 ?_
              refine V_y (Y_pick_fe rfl hc23 rfl) rfl rfl rfl ?_
              exact V_end fun a ha => ⟨(), ha.sub ⟨rfl, rfl, rfl, rfl, rfl, (by rw [hc23]; rfl), trivial⟩, rfl⟩
          simp only [List.take, List.drop]
          rintro _ _ rfl
          refine V_ge rfl rfl rfl hc21 ?_
          refine V_y (Y_not rfl) rfl rfl rfl ?_
          refine V_y (Y_pick_te rfl hc21 rfl) rfl rfl rfl ?_
          exact V_end fun a ha => ⟨(), ha.sub ⟨rfl, rfl, rfl, rfl, (by rw [hc21]; rfl), trivial⟩, rfl⟩
        · refine V_gn rfl rfl rfl hc21 rfl rfl rfl ?_
          refine V_gn rfl rfl rfl hc21 rfl rfl rfl ?_
          refine V_gn rfl rfl rfl hc21 rfl rfl rfl ?_
          refine V_gu rfl rfl rfl rfl rfl ?_
          refine V_gu rfl rfl rfl rfl rfl ?_
          refine V_gn rfl rfl rfl hc21 rfl rfl rfl ?_
          refine V_gn rfl rfl rfl hc21 rfl rfl rfl ?_
          refine V_y (Y_pick_fe rfl hc21 rfl) rfl rfl rfl ?_
          exact V_end fun a ha => ⟨(), ha.sub ⟨rfl, rfl, rfl, rfl, (by rw [hc21]; rfl), trivial⟩, rfl⟩
      simp only [List.take, List.drop]
      rintro _ _ rfl
      refine V_y (Y_move rfl) rfl rfl rfl ?_
      refine V_cut 3 (fun _ : Unit => [(0, .string s), (6, .int .i64 (s.size : Int)), (7, .int .i64 s8), (32, .bool (((!((decide ((97 : Int) ≤ (x18.toNat : Int))) && (decide ((x18.toNat : Int) ≤ 122)))) && (!((decide ((48 : Int) ≤ (x18.toNat : Int))) && (decide ((x18.toNat : Int) ≤ 57))))) && ((x18.toNat : Int) != 95)))]) (fun _ w' => w = w') ?_ ?_
      · simp only [List.take, List.drop]
        rcases Bool.eq_false_or_eq_true (((!((decide ((97 : Int) ≤ (x18.toNat : Int))) && (decide ((x18.toNat : Int) ≤ 122)))) && (!((decide ((48 : Int) ≤ (x18.toNat : Int))) && (decide ((x18.toNat : Int) ≤ 57)))))) with hc25 | hc25
        · refine V_ge rfl rfl rfl hc25 ?_
          refine V_y (Y_move rfl) rfl rfl rfl ?_
          refine V_ge rfl rfl rfl hc25 ?_
          refine V_y (Y_neq rfl rfl) rfl rfl rfl ?_
          refine V_y (Y_pick_te rfl hc25 rfl) rfl rfl rfl ?_
          exact V_end fun a ha => ⟨(), ha.sub ⟨rfl, rfl, rfl, (by rw [hc25]; rfl), trivial⟩, rfl⟩
        · refine V_gn rfl rfl rfl hc25 rfl rfl rfl ?_
          refine V_gn rfl rfl rfl hc25 rfl rfl rfl ?_
          refine V_y (Y_pick_fe rfl hc25 rfl) rfl rfl rfl ?_
          exact V_end fun a ha => ⟨(), ha.sub ⟨rfl, rfl, rfl, (by rw [hc25]; rfl), trivial⟩, rfl⟩
      simp only [List.take, List.drop]
      rintro _ _ rfl
      refine V_to (fun _ _ => rfl) ?_
      refine C_cond rfl (fun hc27 => ?_) (fun hc27 => ?_)
      · rw [if_pos hc27] at h11
        refine C_seq ?_
        refine C_region ?_
        refine V_y (Y_assign rfl) rfl rfl rfl ?_
        refine V_to (fun _ _ => rfl) ?_
        obtain rfl := Option.some.inj h11
        obtain rfl := (h12 : Lp.rt _ = _)
        rw [Lp.andThen_rt] at hm
        obtain rfl := Option.some.inj hm
        refine C_ret ?_
        try simp only [↓inBlock_ret, ↓then_ret]
        exact retQ rfl (Res.one Tryd.results45 rfl) ⟨rfl, rfl⟩
      · rw [if_neg (nt hc27)] at h11
        refine C_skip_to (fun _ _ => rfl) ?_
        refine C_region ?_
        refine V_y (Y_addI rfl rfl) rfl rfl rfl ?_
        refine V_y (Y_move rfl) rfl rfl rfl ?_
        obtain rfl := Option.some.inj h11
        refine V_end (fun a ha28 => ?_)
        exact ⟨w64 (s8 + 1), h12, ⟨(), ha28.sub ⟨rfl, rfl, rfl, trivial⟩, rfl⟩⟩
    · rw [if_neg (nt hc17)] at h11
      obtain rfl := Option.some.inj h11
      refine C_exit (fun a ha29 => ?_)
      exact ⟨s8, ha29.sub ⟨rfl, trivial⟩, ⟨h12.symm, rfl⟩⟩
  rintro s2 _ ⟨rfl, rfl⟩ a ha7
  rw [Lp.andThen_fin] at hm
  refine C_at (n := ⟨41, [], none⟩) (fun _ _ => rfl) ?_ ha7
  refine C_seq ?_
  refine C_region ?_
  refine V_y (Y_move rfl) rfl rfl rfl ?_
  refine V_y (Y_sneq rfl rfl) rfl rfl rfl ?_
  refine V_y (Y_move rfl) rfl rfl rfl ?_
  refine V_cut 4 (fun _ : Unit => [(40, .bool ((!(strEq s (⟨#[]⟩ : ByteArray))) && (decide ((s.size : Int) ≤ 20))))]) (fun _ w' => w = w') ?_ ?_
  · simp only [List.take, List.drop]
    rcases Bool.eq_false_or_eq_true (!(strEq s (⟨#[]⟩ : ByteArray))) with hc31 | hc31
    · refine V_ge rfl rfl rfl hc31 ?_
      refine V_y (Y_move rfl) rfl rfl rfl ?_
      refine V_ge rfl rfl rfl hc31 ?_
      refine V_y (Y_lenStr rfl Tryd.underlying9 rfl) rfl rfl rfl ?_
      refine V_ge rfl rfl rfl hc31 ?_
      refine V_y (Y_leq rfl rfl) rfl rfl rfl ?_
      refine V_y (Y_pick_te rfl hc31 rfl) rfl rfl rfl ?_
      exact V_end fun a ha => ⟨(), ha.sub ⟨(by rw [hc31]; rfl), trivial⟩, rfl⟩
    · refine V_gn rfl rfl rfl hc31 rfl rfl rfl ?_
      refine V_gn rfl rfl rfl hc31 rfl rfl rfl ?_
      refine V_gn rfl rfl rfl hc31 rfl rfl rfl ?_
      refine V_y (Y_pick_fe rfl hc31 rfl) rfl rfl rfl ?_
      exact V_end fun a ha => ⟨(), ha.sub ⟨(by rw [hc31]; rfl), trivial⟩, rfl⟩
  simp only [List.take, List.drop]
  rintro _ _ rfl
  refine V_y (Y_assign rfl) rfl rfl rfl ?_
  refine V_to (fun _ _ => rfl) ?_
  obtain rfl := Option.some.inj hm
  refine C_ret ?_
  try simp only [↓inBlock_ret, ↓then_ret]
  exact retQ rfl (Res.one Tryd.results45 rfl) ⟨rfl, rfl⟩

set_option maxRecDepth 4000 in
set_option maxHeartbeats 4000000 in
theorem route_checkSkills_c (w : World) {A : Nat → Prop} (hA : ∀ b, w.heap.size ≤ b → A b) (l : (List route_Skill)) (v_l : Value) (h_l : Sl A w v_l l) {r : Int} (hm : route_checkSkills l = some r) : Ret Tryd.prog 34 #[v_l] w fun v w' => v = .int .i64 r ∧ Kp w w' := by
  unfold route_checkSkills at hm
  refine enter Tryd.func34 rfl Tryd.ntmps34 rfl ?_
  have hA0 := hA
  have hB := Nat.le_refl w.heap.size
  have hK : Tr w.heap.size A w A w := Tr.refl hA
  have hH : Hp w.heap.size A w [] := Hp.nil
  refine C_seq ?_
  refine C_region ?_
  refine V_y (Y_assign rfl) rfl rfl rfl ?_
  refine V_to (fun _ _ => rfl) ?_
  refine C_seq ?_
  refine C_seq ?_
  refine C_region ?_
  refine V_y (Y_move rfl) rfl rfl rfl ?_
  refine V_y (Y_lenSl h_l rfl Tryd.underlying33 rfl) rfl rfl rfl ?_
  refine V_y (Y_gtr rfl rfl) rfl rfl rfl ?_
  refine V_to (fun _ _ => rfl) ?_
  refine C_cond rfl (fun hc3 => ?_) (fun hc3 => ?_)
  · rw [if_pos hc3] at hm
    refine C_seq ?_
    refine C_region ?_
    refine V_y (Y_assign rfl) rfl rfl rfl ?_
    refine V_to (fun _ _ => rfl) ?_
    obtain rfl := Option.some.inj hm
    refine C_ret ?_
    try simp only [↓inBlock_ret, ↓then_ret]
    exact retQ rfl (Res.one Tryd.results34 rfl) ⟨rfl, hK.kp⟩
  · rw [if_neg (nt hc3)] at hm
    refine C_skip_to (fun _ _ => rfl) ?_
    refine C_seq ?_
    refine C_seq ?_
    refine C_region ?_
    refine V_y (Y_move rfl) rfl rfl rfl ?_
    refine V_y (Y_lenSl h_l rfl Tryd.underlying33 rfl) rfl rfl rfl ?_
    refine V_y (Y_move rfl) rfl rfl rfl ?_
    refine V_to (fun _ _ => rfl) ?_
    have hn25 := Sl.le h_l
    obtain ⟨o4, ho4, hm⟩ := Option.bind_eq_some_iff.1 hm
    refine C_cutG (ι := (Unit × (Nat → Prop))) (fun ⟨s5, A12⟩ => []) (fun ⟨s5, A12⟩ => fun w' => o4 = .fin s5 ∧ Hp w.heap.size A12 w' ([]) ∧ Tr w.heap.size A w A12 w') ?_ ?_
    · refine C_block ?_
      refine C_range ho4 (fun k7 _ a w' => ∃ i : (Nat → Prop), Has ⟨40, [], none⟩ a ([(0, v_l), (8, v_l), (9, .int .i64 (l.length : Int)), (10, .int .i64 (k7 : Int))]) ∧ Hp w.heap.size i w' ([]) ∧ Tr w.heap.size A w i w') (fun a ha => ⟨A, ha.sub ⟨rfl, rfl, rfl, rfl, trivial⟩, ⟨hH, Tr.refl hA⟩⟩) ?_
      rintro K k7 _ a w15 ⟨A16, ha59, hH17, hr6⟩ hle21 K24 h23
      refine C_of ?_ ha59
      replace h_l := Sl.tr h_l hr6
      replace hK := Tr.trans hK hr6
      replace hB := Nat.le_trans hB hr6.ex.size
      replace hA := hr6.new
      replace hH : Hp w.heap.size A16 w15 ([]) := hH17
      refine C_seq (C_region (V_y (Y_lss rfl rfl) rfl rfl rfl (V_to (fun _ _ => rfl) ?_)))
      refine C_seq ?_
      refine C_cond rfl (fun hc26 => ?_) (fun hc26 => ?_)
      · have hlt22 := lt_of_dec hc26
        obtain ⟨x18, h19, h20⟩ := K24 hlt22
        refine C_skip_to (fun _ _ => rfl) ?_
        refine C_seq ?_
        refine C_block ?_
        refine C_seq ?_
        refine C_region ?_
        refine V_y (Y_move rfl) rfl rfl rfl ?_
        obtain ⟨x27, hx27, h19⟩ := Option.bind_eq_some_iff.1 h19
        refine V_indexAddr h_l hx27 Tryd.underlying33 Tryd.sizeOf42 rfl rfl rfl ?_
        intro b28 o29 h30
        obtain ⟨h31, _⟩ := El_route_Skill h30
        refine V_y (Y_loadA h31 Tryd.isAgg42 Tryd.sizeOf42 rfl) rfl rfl rfl ?_
        refine V_alloc Tryd.zeroValue42 rfl ?_
        intro b32 w33 h34
        refine V_y (Y_assign rfl) rfl rfl rfl ?_
        refine V_storeNew h34 Tryd.sizeOf42 rfl rfl rfl rfl (by exact (List.forall_mem_cons.2 ⟨rfl, (List.forall_mem_cons.2 ⟨rfl, (fun _ h => nomatch h)⟩)⟩)) ?_
        intro w35 h36
        have hk38 := h36.kp
        have h37 : El (α := route_Skill) A16 w35 b32 0 x27 := h36.el hA ⟨[.string x27.name], _, rfl, rfl, rfl⟩
        have ht39 := Kp.tr hk38 hA hB
        replace hH := Hp.kp hH hk38
        replace h_l := Sl.tr h_l ht39
        replace h30 := El.tr h30 ht39
        replace hK := Tr.trans hK ht39
        replace hr6 := Tr.trans hr6 ht39
        replace hB := Nat.le_trans hB ht39.ex.size
        replace hA := ht39.new
        refine V_to (fun _ _ => rfl) ?_
        refine C_block ?_
        refine C_seq ?_
        refine C_region ?_
        have h40 := El_route_Skill_0 h37
        refine V_y (Y_fieldAddr Tryd.underlying42 rfl Tryd.sizeOf9 (by decide) rfl) rfl rfl rfl ?_
        refine V_y (Y_load (El.str h40) Tryd.isAgg9 rfl) rfl rfl rfl ?_
        obtain ⟨x41, hx41, h19⟩ := Option.bind_eq_some_iff.1 h19
        refine V_call Tryd.call45 rfl rfl rfl rfl (route_name_c w35 x27.name hx41) ?_
        rintro _ _ ⟨rfl, rfl⟩
        refine V_y (Y_not rfl) rfl rfl rfl ?_
        refine V_y (Y_assign rfl) rfl rfl rfl ?_
        refine V_to (fun _ _ => rfl) ?_
        refine C_cond rfl (fun hc42 => ?_) (fun hc42 => ?_)
        · rw [if_pos hc42] at h19
          refine C_seq ?_
          refine C_region ?_
          refine V_y (Y_assign rfl) rfl rfl rfl ?_
          refine V_to (fun _ _ => rfl) ?_
          obtain rfl := Option.some.inj h19
          obtain rfl := (h20 : Lp.rt _ = _)
          rw [Lp.andThen_rt] at hm
          obtain rfl := Option.some.inj hm
          refine C_ret ?_
          try simp only [↓inBlock_ret, ↓then_ret]
          exact retQ rfl (Res.one Tryd.results34 rfl) ⟨rfl, hK.kp⟩
        · rw [if_neg (nt hc42)] at h19
          refine C_seq ?_
          refine C_region_q Tryd_mixed (by kernel_rfl) ?_
          refine VQ_y (fun w' hw' => Y_move rfl) rfl rfl rfl ?_
          refine VQ_y (fun w' hw' => Y_gtr rfl rfl) rfl rfl rfl ?_
          refine VQ_y (fun w' hw' => Y_move rfl) rfl rfl rfl ?_
          obtain ⟨s44, hs44, h19⟩ := Option.bind_eq_some_iff.1 h19
          refine VQ_cut 10 (fun _ : Unit => [(0, v_l), (4, .pointer (some ⟨b32, 0, none⟩)), (8, v_l), (9, .int .i64 (l.length : Int)), (10, .int .i64 (k7 : Int)), (33, .bool s44)]) (fun _ => True) ?_ ?_
          · simp only [List.take, List.drop]
            rcases Bool.eq_false_or_eq_true (decide ((0 : Int) < (k7 : Int))) with hc43 | hc43
            · rw [if_pos hc43] at hs44
              refine VQ_ge rfl rfl rfl hc43 ?_
              have h45 := El_route_Skill_0 h37
              refine VQ_y (fun w' hw' => Y_fieldAddr Tryd.underlying42 rfl Tryd.sizeOf9 (by decide) rfl) rfl rfl rfl ?_
              refine VQ_ge rfl rfl rfl hc43 ?_
              refine VQ_y (fun w' hw' => Y_load (El.str (El.kp h45 hw')) Tryd.isAgg9 rfl) rfl rfl rfl ?_
              refine VQ_ge rfl rfl rfl hc43 ?_
              refine VQ_y (fun w' hw' => Y_move rfl) rfl rfl rfl ?_
              refine VQ_ge rfl rfl rfl hc43 ?_
              refine VQ_y (fun w' hw' => Y_move rfl) rfl rfl rfl ?_
              refine VQ_ge rfl rfl rfl hc43 ?_
              refine VQ_y (fun w' hw' => Y_subI rfl rfl) rfl rfl rfl ?_
              refine VQ_ge rfl rfl rfl hc43 ?_
              obtain ⟨x46, hx46, hs44⟩ := Option.bind_eq_some_iff.1 hs44
              refine VQ_indexAddr h_l hx46 Tryd.underlying33 Tryd.sizeOf42 rfl rfl rfl ?_
              intro b47 o48 h49
              refine VQ_ge rfl rfl rfl hc43 ?_
              have h50 := El_route_Skill_0 h49
              refine VQ_y (fun w' hw' => Y_fieldAddr Tryd.underlying42 rfl Tryd.sizeOf9 (by decide) rfl) rfl rfl rfl ?_
              refine VQ_ge rfl rfl rfl hc43 ?_
              refine VQ_y (fun w' hw' => Y_load (El.str (El.kp h50 hw')) Tryd.isAgg9 rfl) rfl rfl rfl ?_
              refine VQ_ge rfl rfl rfl hc43 ?_
              refine VQ_y (fun w' hw' => Y_sleq rfl rfl) rfl rfl rfl ?_
              refine VQ_y (fun _ _ => Y_pick_te rfl hc43 rfl) rfl rfl rfl ?_
              obtain rfl := Option.some.inj hs44
              exact VQ_end fun a ha => ⟨(), ha.sub ⟨rfl, rfl, rfl, rfl, rfl, rfl, trivial⟩, trivial⟩
            · rw [if_neg (nt hc43)] at hs44
              refine VQ_gn rfl rfl rfl hc43 rfl rfl rfl ?_
              refine VQ_gn rfl rfl rfl hc43 rfl rfl rfl ?_
              refine VQ_gn rfl rfl rfl hc43 rfl rfl rfl ?_
              refine VQ_gn rfl rfl rfl hc43 rfl rfl rfl ?_
              refine VQ_gn rfl rfl rfl hc43 rfl rfl rfl ?_
              refine VQ_gn rfl rfl rfl hc43 rfl rfl rfl ?_
              refine VQ_gn rfl rfl rfl hc43 rfl rfl rfl ?_
              refine VQ_gn rfl rfl rfl hc43 rfl rfl rfl ?_
              refine VQ_gn rfl rfl rfl hc43 rfl rfl rfl ?_
              refine VQ_y (fun _ _ => Y_pick_fe rfl hc43 rfl) rfl rfl rfl ?_
              obtain rfl := Option.some.inj hs44
              exact VQ_end fun a ha => ⟨(), ha.sub ⟨rfl, rfl, rfl, rfl, rfl, rfl, trivial⟩, trivial⟩
          simp only [List.take, List.drop]
          rintro _ _
          refine VQ_y (fun w' hw' => Y_assign rfl) rfl rfl rfl ?_
          refine VQ_to (fun _ _ => rfl) (fun w51 hk52 => ?_)
          have ht53 := Kp.tr hk52 hA hB
          replace hH := Hp.kp hH hk52
          replace h_l := Sl.tr h_l ht53
          replace h37 := El.tr h37 ht53
          replace hK := Tr.trans hK ht53
          replace hr6 := Tr.trans hr6 ht53
          replace hB := Nat.le_trans hB ht53.ex.size
          replace hA := ht53.new
          refine C_cond rfl (fun hc54 => ?_) (fun hc54 => ?_)
          · rw [if_pos hc54] at h19
            refine C_seq ?_
            refine C_region ?_
            refine V_y (Y_assign rfl) rfl rfl rfl ?_
            refine V_to (fun _ _ => rfl) ?_
            obtain rfl := Option.some.inj h19
            obtain rfl := (h20 : Lp.rt _ = _)
            rw [Lp.andThen_rt] at hm
            obtain rfl := Option.some.inj hm
            refine C_ret ?_
            try simp only [↓inBlock_ret, ↓then_ret]
            exact retQ rfl (Res.one Tryd.results34 rfl) ⟨rfl, hK.kp⟩
          · rw [if_neg (nt hc54)] at h19
            refine C_seq ?_
            refine C_region ?_
            have h55 := El_route_Skill_1 h37
            refine V_y (Y_fieldAddr Tryd.underlying42 rfl Tryd.sizeOf3 (by decide) rfl) rfl rfl rfl ?_
            refine V_y (Y_load (El.int h55) Tryd.isAgg3 rfl) rfl rfl rfl ?_
            refine V_call Tryd.call39 rfl rfl rfl rfl (route_within_c w51 x27.rank 1 9) ?_
            rintro _ _ ⟨rfl, rfl⟩
            refine V_y (Y_not rfl) rfl rfl rfl ?_
            refine V_y (Y_assign rfl) rfl rfl rfl ?_
            refine V_to (fun _ _ => rfl) ?_
            refine C_cond rfl (fun hc56 => ?_) (fun hc56 => ?_)
            · rw [if_pos hc56] at h19
              refine C_seq ?_
              refine C_region ?_
              refine V_y (Y_assign rfl) rfl rfl rfl ?_
              refine V_to (fun _ _ => rfl) ?_
              obtain rfl := Option.some.inj h19
              obtain rfl := (h20 : Lp.rt _ = _)
              rw [Lp.andThen_rt] at hm
              obtain rfl := Option.some.inj hm
              refine C_ret ?_
              try simp only [↓inBlock_ret, ↓then_ret]
              exact retQ rfl (Res.one Tryd.results34 rfl) ⟨rfl, hK.kp⟩
            · rw [if_neg (nt hc56)] at h19
              refine C_skip_to (fun _ _ => rfl) ?_
              refine C_region ?_
              refine V_y (Y_addI rfl rfl) rfl rfl rfl ?_
              refine V_y (Y_move rfl) rfl rfl rfl ?_
              obtain rfl := Option.some.inj h19
              refine V_end (fun a ha57 => ?_)
              exact ⟨(), hlt22, h20, ⟨A16, ha57.sub ⟨rfl, rfl, rfl, (congrArg (fun z => some (Value.int .i64 z)) (w64_succ hlt22 hn25)), trivial⟩, ⟨hH, hr6⟩⟩⟩
      · refine C_exit (fun a ha58 => ?_)
        exact ⟨((), A16), ha58.sub trivial, ⟨(h23 (eq_of_dec hle21 hc26)).symm, hH, hr6⟩⟩
    rintro ⟨s5, A12⟩ w9 ⟨rfl, hH13, hk10⟩ a ha11
    rw [Lp.andThen_fin] at hm
    replace hK := Tr.trans hK hk10
    replace hB := Nat.le_trans hB hk10.ex.size
    replace hA := hk10.new
    replace hH : Hp w.heap.size A12 w9 ([]) := hH13
    refine C_at (n := ⟨40, [], none⟩) (fun _ _ => rfl) ?_ ha11
    refine C_seq ?_
    refine C_region ?_
    refine V_y (Y_assign rfl) rfl rfl rfl ?_
    refine V_to (fun _ _ => rfl) ?_
    obtain rfl := Option.some.inj hm
    refine C_ret ?_
    try simp only [↓inBlock_ret, ↓then_ret]
    exact retQ rfl (Res.one Tryd.results34 rfl) ⟨rfl, hK.kp⟩

set_option maxRecDepth 4000 in
set_option maxHeartbeats 4000000 in
theorem route_CheckPeople_c (w : World) {A : Nat → Prop} (hA : ∀ b, w.heap.size ≤ b → A b) (l : (List route_Person)) (v_l : Value) (h_l : Sl A w v_l l) {r : Int} (hm : route_CheckPeople l = some r) : Ret Tryd.prog 21 #[v_l] w fun v w' => v = .int .i64 r ∧ Kp w w' := by
  unfold route_CheckPeople at hm
  refine enter Tryd.func21 rfl Tryd.ntmps21 rfl ?_
  have hA0 := hA
  have hB := Nat.le_refl w.heap.size
  have hK : Tr w.heap.size A w A w := Tr.refl hA
  have hH : Hp w.heap.size A w [] := Hp.nil
  refine C_seq ?_
  refine C_region ?_
  refine V_y (Y_assign rfl) rfl rfl rfl ?_
  refine V_to (fun _ _ => rfl) ?_
  refine C_seq ?_
  refine C_seq ?_
  refine C_region ?_
  refine V_y (Y_move rfl) rfl rfl rfl ?_
  refine V_y (Y_lenSl h_l rfl Tryd.underlying22 rfl) rfl rfl rfl ?_
  refine V_y (Y_gtr rfl rfl) rfl rfl rfl ?_
  refine V_to (fun _ _ => rfl) ?_
  refine C_cond rfl (fun hc3 => ?_) (fun hc3 => ?_)
  · rw [if_pos hc3] at hm
    refine C_seq ?_
    refine C_region ?_
    refine V_y (Y_assign rfl) rfl rfl rfl ?_
    refine V_to (fun _ _ => rfl) ?_
    obtain rfl := Option.some.inj hm
    refine C_ret ?_
    try simp only [↓inBlock_ret, ↓then_ret]
    exact retQ rfl (Res.one Tryd.results21 rfl) ⟨rfl, hK.kp⟩
  · rw [if_neg (nt hc3)] at hm
    refine C_skip_to (fun _ _ => rfl) ?_
    refine C_seq ?_
    refine C_seq ?_
    refine C_region ?_
    refine V_y (Y_move rfl) rfl rfl rfl ?_
    refine V_y (Y_lenSl h_l rfl Tryd.underlying22 rfl) rfl rfl rfl ?_
    refine V_y (Y_move rfl) rfl rfl rfl ?_
    refine V_to (fun _ _ => rfl) ?_
    have hn25 := Sl.le h_l
    obtain ⟨o4, ho4, hm⟩ := Option.bind_eq_some_iff.1 hm
    refine C_cutG (ι := (Unit × (Nat → Prop))) (fun ⟨s5, A12⟩ => []) (fun ⟨s5, A12⟩ => fun w' => o4 = .fin s5 ∧ Hp w.heap.size A12 w' ([]) ∧ Tr w.heap.size A w A12 w') ?_ ?_
    · refine C_block ?_
      refine C_range ho4 (fun k7 _ a w' => ∃ i : (Nat → Prop), Has ⟨53, [], none⟩ a ([(0, v_l), (9, v_l), (10, .int .i64 (l.length : Int)), (11, .int .i64 (k7 : Int))]) ∧ Hp w.heap.size i w' ([]) ∧ Tr w.heap.size A w i w') (fun a ha => ⟨A, ha.sub ⟨rfl, rfl, rfl, rfl, trivial⟩, ⟨hH, Tr.refl hA⟩⟩) ?_
      rintro K k7 _ a w15 ⟨A16, ha75, hH17, hr6⟩ hle21 K24 h23
      refine C_of ?_ ha75
      replace h_l := Sl.tr h_l hr6
      replace hK := Tr.trans hK hr6
      replace hB := Nat.le_trans hB hr6.ex.size
      replace hA := hr6.new
      replace hH : Hp w.heap.size A16 w15 ([]) := hH17
      refine C_seq (C_region (V_y (Y_lss rfl rfl) rfl rfl rfl (V_to (fun _ _ => rfl) ?_)))
      refine C_seq ?_
      refine C_cond rfl (fun hc26 => ?_) (fun hc26 => ?_)
      · have hlt22 := lt_of_dec hc26
        obtain ⟨x18, h19, h20⟩ := K24 hlt22
        refine C_skip_to (fun _ _ => rfl) ?_
        refine C_seq ?_
        refine C_block ?_
        refine C_seq ?_
        refine C_region ?_
        refine V_y (Y_move rfl) rfl rfl rfl ?_
        obtain ⟨x27, hx27, h19⟩ := Option.bind_eq_some_iff.1 h19
        refine V_indexAddr h_l hx27 Tryd.underlying22 Tryd.sizeOf46 rfl rfl rfl ?_
        intro b28 o29 h30
        obtain ⟨v31, h33, h32⟩ := El_route_Person h30
        refine V_y (Y_loadA h33 Tryd.isAgg46 Tryd.sizeOf46 rfl) rfl rfl rfl ?_
        refine V_alloc Tryd.zeroValue46 rfl ?_
        intro b34 w35 h36
        refine V_y (Y_assign rfl) rfl rfl rfl ?_
        have h41 : (v31).oneCell' = true := by obtain ⟨_, _, e, _⟩ := Sl.form h32; rw [e]; rfl
        refine V_storeNew h36 Tryd.sizeOf46 rfl rfl rfl rfl (by exact (List.forall_mem_cons.2 ⟨rfl, (List.forall_mem_cons.2 ⟨rfl, (List.forall_mem_cons.2 ⟨rfl, (List.forall_mem_cons.2 ⟨h41, (fun _ h => nomatch h)⟩)⟩)⟩)⟩)) ?_
        intro w37 h38
        have hk43 := h38.kp
        have h42 : El (α := route_Person) A16 w37 b34 0 x27 := h38.el hA ⟨[.int .i64 x27.no], _, rfl, rfl, ⟨[.int .i64 x27.capacity], _, rfl, rfl, ⟨[.int .i64 x27.calendar], _, rfl, rfl, ⟨_, rfl, h32⟩⟩⟩⟩
        have ht44 := Kp.tr hk43 hA hB
        replace hH := Hp.kp hH hk43
        replace h_l := Sl.tr h_l ht44
        replace h30 := El.tr h30 ht44
        replace h32 := Sl.tr h32 ht44
        replace hK := Tr.trans hK ht44
        replace hr6 := Tr.trans hr6 ht44
        replace hB := Nat.le_trans hB ht44.ex.size
        replace hA := ht44.new
        refine V_to (fun _ _ => rfl) ?_
        refine C_seq ?_
        refine C_block ?_
        refine C_seq ?_
        refine C_region ?_
        have h45 := El_route_Person_0 h42
        refine V_y (Y_fieldAddr Tryd.underlying46 rfl Tryd.sizeOf3 (by decide) rfl) rfl rfl rfl ?_
        refine V_y (Y_load (El.int h45) Tryd.isAgg3 rfl) rfl rfl rfl ?_
        refine V_call Tryd.call39 rfl rfl rfl rfl (route_within_c w37 x27.no 1 40) ?_
        rintro _ _ ⟨rfl, rfl⟩
        refine V_y (Y_not rfl) rfl rfl rfl ?_
        refine V_y (Y_assign rfl) rfl rfl rfl ?_
        refine V_to (fun _ _ => rfl) ?_
        refine C_cond rfl (fun hc46 => ?_) (fun hc46 => ?_)
        · rw [if_pos hc46] at h19
          refine C_seq ?_
          refine C_region ?_
          refine V_y (Y_assign rfl) rfl rfl rfl ?_
          refine V_to (fun _ _ => rfl) ?_
          obtain rfl := Option.some.inj h19
          obtain rfl := (h20 : Lp.rt _ = _)
          rw [Lp.andThen_rt] at hm
          obtain rfl := Option.some.inj hm
          refine C_ret ?_
          try simp only [↓inBlock_ret, ↓then_ret]
          exact retQ rfl (Res.one Tryd.results21 rfl) ⟨rfl, hK.kp⟩
        · rw [if_neg (nt hc46)] at h19
          refine C_seq ?_
          refine C_region_q Tryd_mixed (by kernel_rfl) ?_
          refine VQ_y (fun w' hw' => Y_move rfl) rfl rfl rfl ?_
          refine VQ_y (fun w' hw' => Y_gtr rfl rfl) rfl rfl rfl ?_
          refine VQ_y (fun w' hw' => Y_move rfl) rfl rfl rfl ?_
          obtain ⟨s48, hs48, h19⟩ := Option.bind_eq_some_iff.1 h19
          refine VQ_cut 10 (fun _ : Unit => [(0, v_l), (4, .pointer (some ⟨b34, 0, none⟩)), (9, v_l), (10, .int .i64 (l.length : Int)), (11, .int .i64 (k7 : Int)), (34, .bool s48)]) (fun _ => True) ?_ ?_
          · simp only [List.take, List.drop]
            rcases Bool.eq_false_or_eq_true (decide ((0 : Int) < (k7 : Int))) with hc47 | hc47
            · rw [if_pos hc47] at hs48
              refine VQ_ge rfl rfl rfl hc47 ?_
              have h49 := El_route_Person_0 h42
              refine VQ_y (fun w' hw' => Y_fieldAddr Tryd.underlying46 rfl Tryd.sizeOf3 (by decide) rfl) rfl rfl rfl ?_
              refine VQ_ge rfl rfl rfl hc47 ?_
              refine VQ_y (fun w' hw' => Y_load (El.int (El.kp h49 hw')) Tryd.isAgg3 rfl) rfl rfl rfl ?_
              refine VQ_ge rfl rfl rfl hc47 ?_
              refine VQ_y (fun w' hw' => Y_move rfl) rfl rfl rfl ?_
              refine VQ_ge rfl rfl rfl hc47 ?_
              refine VQ_y (fun w' hw' => Y_move rfl) rfl rfl rfl ?_
              refine VQ_ge rfl rfl rfl hc47 ?_
              refine VQ_y (fun w' hw' => Y_subI rfl rfl) rfl rfl rfl ?_
              refine VQ_ge rfl rfl rfl hc47 ?_
              obtain ⟨x50, hx50, hs48⟩ := Option.bind_eq_some_iff.1 hs48
              refine VQ_indexAddr h_l hx50 Tryd.underlying22 Tryd.sizeOf46 rfl rfl rfl ?_
              intro b51 o52 h53
              refine VQ_ge rfl rfl rfl hc47 ?_
              have h54 := El_route_Person_0 h53
              refine VQ_y (fun w' hw' => Y_fieldAddr Tryd.underlying46 rfl Tryd.sizeOf3 (by decide) rfl) rfl rfl rfl ?_
              refine VQ_ge rfl rfl rfl hc47 ?_
              refine VQ_y (fun w' hw' => Y_load (El.int (El.kp h54 hw')) Tryd.isAgg3 rfl) rfl rfl rfl ?_
              refine VQ_ge rfl rfl rfl hc47 ?_
              refine VQ_y (fun w' hw' => Y_leq rfl rfl) rfl rfl rfl ?_
              refine VQ_y (fun _ _ => Y_pick_te rfl hc47 rfl) rfl rfl rfl ?_
              obtain rfl := Option.some.inj hs48
              exact VQ_end fun a ha => ⟨(), ha.sub ⟨rfl, rfl, rfl, rfl, rfl, rfl, trivial⟩, trivial⟩
            · rw [if_neg (nt hc47)] at hs48
              refine VQ_gn rfl rfl rfl hc47 rfl rfl rfl ?_
              refine VQ_gn rfl rfl rfl hc47 rfl rfl rfl ?_
              refine VQ_gn rfl rfl rfl hc47 rfl rfl rfl ?_
              refine VQ_gn rfl rfl rfl hc47 rfl rfl rfl ?_
              refine VQ_gn rfl rfl rfl hc47 rfl rfl rfl ?_
              refine VQ_gn rfl rfl rfl hc47 rfl rfl rfl ?_
              refine VQ_gn rfl rfl rfl hc47 rfl rfl rfl ?_
              refine VQ_gn rfl rfl rfl hc47 rfl rfl rfl ?_
              refine VQ_gn rfl rfl rfl hc47 rfl rfl rfl ?_
              refine VQ_y (fun _ _ => Y_pick_fe rfl hc47 rfl) rfl rfl rfl ?_
              obtain rfl := Option.some.inj hs48
              exact VQ_end fun a ha => ⟨(), ha.sub ⟨rfl, rfl, rfl, rfl, rfl, rfl, trivial⟩, trivial⟩
          simp only [List.take, List.drop]
          rintro _ _
          refine VQ_y (fun w' hw' => Y_assign rfl) rfl rfl rfl ?_
          refine VQ_to (fun _ _ => rfl) (fun w55 hk56 => ?_)
          have ht57 := Kp.tr hk56 hA hB
          replace hH := Hp.kp hH hk56
          replace h_l := Sl.tr h_l ht57
          replace h42 := El.tr h42 ht57
          replace hK := Tr.trans hK ht57
          replace hr6 := Tr.trans hr6 ht57
          replace hB := Nat.le_trans hB ht57.ex.size
          replace hA := ht57.new
          refine C_cond rfl (fun hc58 => ?_) (fun hc58 => ?_)
          · rw [if_pos hc58] at h19
            refine C_seq ?_
            refine C_region ?_
            refine V_y (Y_assign rfl) rfl rfl rfl ?_
            refine V_to (fun _ _ => rfl) ?_
            obtain rfl := Option.some.inj h19
            obtain rfl := (h20 : Lp.rt _ = _)
            rw [Lp.andThen_rt] at hm
            obtain rfl := Option.some.inj hm
            refine C_ret ?_
            try simp only [↓inBlock_ret, ↓then_ret]
            exact retQ rfl (Res.one Tryd.results21 rfl) ⟨rfl, hK.kp⟩
          · rw [if_neg (nt hc58)] at h19
            refine C_seq ?_
            refine C_region ?_
            have h59 := El_route_Person_1 h42
            refine V_y (Y_fieldAddr Tryd.underlying46 rfl Tryd.sizeOf3 (by decide) rfl) rfl rfl rfl ?_
            refine V_y (Y_load (El.int h59) Tryd.isAgg3 rfl) rfl rfl rfl ?_
            refine V_call Tryd.call39 rfl rfl rfl rfl (route_within_c w55 x27.capacity 0 100) ?_
            rintro _ _ ⟨rfl, rfl⟩
            refine V_y (Y_not rfl) rfl rfl rfl ?_
            refine V_y (Y_move rfl) rfl rfl rfl ?_
            refine V_cut 5 (fun _ : Unit => [(0, v_l), (4, .pointer (some ⟨b34, 0, none⟩)), (9, v_l), (10, .int .i64 (l.length : Int)), (11, .int .i64 (k7 : Int)), (45, .bool ((!(route_within x27.capacity 0 100)) || (!(route_within x27.calendar 0 19))))]) (fun _ w' => w55 = w') ?_ ?_
            · simp only [List.take, List.drop]
              rcases Bool.eq_false_or_eq_true (!(route_within x27.capacity 0 100)) with hc60 | hc60
              · refine V_gn rfl rfl rfl hc60 rfl rfl rfl ?_
                refine V_gn rfl rfl rfl hc60 rfl rfl rfl ?_
                refine V_gn rfl rfl rfl hc60 rfl rfl rfl ?_
                refine V_gn rfl rfl rfl hc60 rfl rfl rfl ?_
                refine V_y (Y_pick_te rfl hc60 rfl) rfl rfl rfl ?_
                exact V_end fun a ha => ⟨(), ha.sub ⟨rfl, rfl, rfl, rfl, rfl, (by rw [hc60]; rfl), trivial⟩, rfl⟩
              · refine V_ge rfl rfl rfl hc60 ?_
                have h62 := El_route_Person_2 h42
                refine V_y (Y_fieldAddr Tryd.underlying46 rfl Tryd.sizeOf3 (by decide) rfl) rfl rfl rfl ?_
                refine V_ge rfl rfl rfl hc60 ?_
                refine V_y (Y_load (El.int h62) Tryd.isAgg3 rfl) rfl rfl rfl ?_
                refine V_ge rfl rfl rfl hc60 ?_
                refine V_call Tryd.call39 rfl rfl rfl rfl (route_within_c w55 x27.calendar 0 19) ?_
                rintro _ _ ⟨rfl, rfl⟩
                refine V_ge rfl rfl rfl hc60 ?_
                refine V_y (Y_not rfl) rfl rfl rfl ?_
                refine V_y (Y_pick_fe rfl hc60 rfl) rfl rfl rfl ?_
                exact V_end fun a ha => ⟨(), ha.sub ⟨rfl, rfl, rfl, rfl, rfl, (by rw [hc60]; rfl), trivial⟩, rfl⟩
            simp only [List.take, List.drop]
            rintro _ _ rfl
            refine V_y (Y_assign rfl) rfl rfl rfl ?_
            refine V_to (fun _ _ => rfl) ?_
            refine C_cond rfl (fun hc63 => ?_) (fun hc63 => ?_)
            · rw [if_pos hc63] at h19
              refine C_seq ?_
              refine C_region ?_
              refine V_y (Y_assign rfl) rfl rfl rfl ?_
              refine V_to (fun _ _ => rfl) ?_
              obtain rfl := Option.some.inj h19
              obtain rfl := (h20 : Lp.rt _ = _)
              rw [Lp.andThen_rt] at hm
              obtain rfl := Option.some.inj hm
              refine C_ret ?_
              try simp only [↓inBlock_ret, ↓then_ret]
              exact retQ rfl (Res.one Tryd.results21 rfl) ⟨rfl, hK.kp⟩
            · rw [if_neg (nt hc63)] at h19
              refine C_skip_to (fun _ _ => rfl) ?_
              refine C_seq ?_
              refine C_region ?_
              have h64 := El_route_Person_3 h42
              refine V_y (Y_fieldAddr Tryd.underlying46 rfl Tryd.sizeOf33 (by decide) rfl) rfl rfl rfl ?_
              obtain ⟨v65, h66, h67⟩ := El.list h64
              refine V_y (Y_load h66 Tryd.isAgg33 rfl) rfl rfl rfl ?_
              obtain ⟨x68, hx68, h19⟩ := Option.bind_eq_some_iff.1 h19
              refine V_call Tryd.call34 rfl rfl rfl rfl (route_checkSkills_c w55 hA x27.skills v65 h67 hx68) ?_
              rintro _ w69 ⟨rfl, hk70⟩
              have ht71 := Kp.tr hk70 hA hB
              replace hH := Hp.kp hH hk70
              replace h_l := Sl.tr h_l ht71
              replace h42 := El.tr h42 ht71
              replace h64 := El.tr h64 ht71
              replace h67 := Sl.tr h67 ht71
              replace hK := Tr.trans hK ht71
              replace hr6 := Tr.trans hr6 ht71
              replace hB := Nat.le_trans hB ht71.ex.size
              replace hA := ht71.new
              refine V_y (Y_assign rfl) rfl rfl rfl ?_
              refine V_to (fun _ _ => rfl) ?_
              refine C_seq ?_
              refine C_region ?_
              refine V_y (Y_move rfl) rfl rfl rfl ?_
              refine V_y (Y_neq rfl rfl) rfl rfl rfl ?_
              refine V_to (fun _ _ => rfl) ?_
              refine C_cond rfl (fun hc72 => ?_) (fun hc72 => ?_)
              · rw [if_pos hc72] at h19
                refine C_seq ?_
                refine C_region ?_
                refine V_y (Y_move rfl) rfl rfl rfl ?_
                refine V_y (Y_assign rfl) rfl rfl rfl ?_
                refine V_to (fun _ _ => rfl) ?_
                obtain rfl := Option.some.inj h19
                obtain rfl := (h20 : Lp.rt _ = _)
                rw [Lp.andThen_rt] at hm
                obtain rfl := Option.some.inj hm
                refine C_ret ?_
                try simp only [↓inBlock_ret, ↓then_ret]
                exact retQ rfl (Res.one Tryd.results21 rfl) ⟨rfl, hK.kp⟩
              · rw [if_neg (nt hc72)] at h19
                refine C_skip_to (fun _ _ => rfl) ?_
                refine C_region ?_
                refine V_y (Y_addI rfl rfl) rfl rfl rfl ?_
                refine V_y (Y_move rfl) rfl rfl rfl ?_
                obtain rfl := Option.some.inj h19
                refine V_end (fun a ha73 => ?_)
                exact ⟨(), hlt22, h20, ⟨A16, ha73.sub ⟨rfl, rfl, rfl, (congrArg (fun z => some (Value.int .i64 z)) (w64_succ hlt22 hn25)), trivial⟩, ⟨hH, hr6⟩⟩⟩
      · refine C_exit (fun a ha74 => ?_)
        exact ⟨((), A16), ha74.sub trivial, ⟨(h23 (eq_of_dec hle21 hc26)).symm, hH, hr6⟩⟩
    rintro ⟨s5, A12⟩ w9 ⟨rfl, hH13, hk10⟩ a ha11
    rw [Lp.andThen_fin] at hm
    replace hK := Tr.trans hK hk10
    replace hB := Nat.le_trans hB hk10.ex.size
    replace hA := hk10.new
    replace hH : Hp w.heap.size A12 w9 ([]) := hH13
    refine C_at (n := ⟨53, [], none⟩) (fun _ _ => rfl) ?_ ha11
    refine C_seq ?_
    refine C_region ?_
    refine V_y (Y_assign rfl) rfl rfl rfl ?_
    refine V_to (fun _ _ => rfl) ?_
    obtain rfl := Option.some.inj hm
    refine C_ret ?_
    try simp only [↓inBlock_ret, ↓then_ret]
    exact retQ rfl (Res.one Tryd.results21 rfl) ⟨rfl, hK.kp⟩

set_option maxRecDepth 4000 in
set_option maxHeartbeats 4000000 in
theorem slices_IndexFunc_Lroute_Person_route_Person_c (w : World) {A : Nat → Prop} (hA : ∀ b, w.heap.size ≤ b → A b) (s : (List route_Person)) (v_s : Value) (h_s : Sl A w v_s s) (f : route_Person → Option Bool) (f_f : FuncId) (f_a f_c : Array Value) (f_call : ∀ (args : Array Value) (w : World), (callFunc f_f args).run Tryd.prog w = .ok (.enter f_f args) w) (f_spec : ∀ (w1 : World) (A1 : Nat → Prop), Tr w.heap.size A w A1 w1 → (∀ b, w1.heap.size ≤ b → A1 b) → ∀ (y0 : route_Person) (v1 : Value) (h2 : Sl A1 w1 v1 y0.skills) (r : Bool), f y0 = some r → Ret Tryd.prog f_f (f_a ++ #[.agg #[.int .i64 y0.no, .int .i64 y0.capacity, .int .i64 y0.calendar, v1]] ++ f_c) w1 fun v w' => v = .bool r ∧ Kp w1 w') {r : Int} (hm : slices_IndexFunc_Lroute_Person_route_Person s f = some r) : Ret Tryd.prog 50 #[v_s, .func (.func f_f) f_a f_c] w fun v w' => v = .int .i64 r ∧ Kp w w' := by
  unfold slices_IndexFunc_Lroute_Person_route_Person at hm
  refine enter Tryd.func50 rfl Tryd.ntmps50 rfl ?_
  have hA0 := hA
  have hB := Nat.le_refl w.heap.size
  have hK : Tr w.heap.size A w A w := Tr.refl hA
  have hH : Hp w.heap.size A w [] := Hp.nil
  refine C_seq ?_
  refine C_region ?_
  refine V_y (Y_assign rfl) rfl rfl rfl ?_
  refine V_to (fun _ _ => rfl) ?_
  refine C_seq ?_
  refine C_seq ?_
  refine C_region ?_
  refine V_y (Y_move rfl) rfl rfl rfl ?_
  refine V_y (Y_lenSl h_s rfl Tryd.underlying22 rfl) rfl rfl rfl ?_
  refine V_y (Y_move rfl) rfl rfl rfl ?_
  refine V_to (fun _ _ => rfl) ?_
  have hn23 := Sl.le h_s
  obtain ⟨o3, ho3, hm⟩ := Option.bind_eq_some_iff.1 hm
  refine C_cutG (ι := (Unit × (Nat → Prop))) (fun ⟨s4, A10⟩ => []) (fun ⟨s4, A10⟩ => fun w' => o3 = .fin s4 ∧ Hp w.heap.size A10 w' ([]) ∧ Tr w.heap.size A w A10 w') ?_ ?_
  · refine C_block ?_
    refine C_range ho3 (fun k6 _ a w' => ∃ i : (Nat → Prop), Has ⟨19, [], none⟩ a ([(0, v_s), (1, .func (.func f_f) f_a f_c), (7, .int .i64 (s.length : Int)), (8, .int .i64 (k6 : Int))]) ∧ Hp w.heap.size i w' ([]) ∧ Tr w.heap.size A w i w') (fun a ha => ⟨A, ha.sub ⟨rfl, rfl, rfl, rfl, trivial⟩, ⟨hH, Tr.refl hA⟩⟩) ?_
    rintro K k6 _ a w13 ⟨A14, ha39, hH15, hr5⟩ hle19 K22 h21
    refine C_of ?_ ha39
    replace h_s := Sl.tr h_s hr5
    replace hK := Tr.trans hK hr5
    replace hB := Nat.le_trans hB hr5.ex.size
    replace hA := hr5.new
    replace hH : Hp w.heap.size A14 w13 ([]) := hH15
    refine C_seq (C_region (V_y (Y_lss rfl rfl) rfl rfl rfl (V_to (fun _ _ => rfl) ?_)))
    refine C_seq ?_
    refine C_cond rfl (fun hc24 => ?_) (fun hc24 => ?_)
    · have hlt20 := lt_of_dec hc24
      obtain ⟨x16, h17, h18⟩ := K22 hlt20
      refine C_skip_to (fun _ _ => rfl) ?_
      refine C_seq ?_
      refine C_block ?_
      refine C_seq ?_
      refine C_region ?_
      refine V_y (Y_move rfl) rfl rfl rfl ?_
      refine V_y (Y_assign rfl) rfl rfl rfl ?_
      refine V_to (fun _ _ => rfl) ?_
      refine C_seq ?_
      refine C_region ?_
      refine V_y (Y_move rfl) rfl rfl rfl ?_
      refine V_y (Y_move rfl) rfl rfl rfl ?_
      refine V_y (Y_move rfl) rfl rfl rfl ?_
      obtain ⟨x25, hx25, h17⟩ := Option.bind_eq_some_iff.1 h17
      refine V_indexAddr h_s hx25 Tryd.underlying22 Tryd.sizeOf46 rfl rfl rfl ?_
      intro b26 o27 h28
      obtain ⟨v29, h31, h30⟩ := El_route_Person h28
      refine V_y (Y_loadA h31 Tryd.isAgg46 Tryd.sizeOf46 rfl) rfl rfl rfl ?_
      obtain ⟨x32, hx32, h17⟩ := Option.bind_eq_some_iff.1 h17
      refine V_call f_call rfl rfl rfl rfl (f_spec w13 _ hK hA x25 v29 h30 _ hx32) ?_
      rintro _ w33 ⟨rfl, hk34⟩
      have ht35 := Kp.tr hk34 hA hB
      replace hH := Hp.kp hH hk34
      replace h_s := Sl.tr h_s ht35
      replace h28 := El.tr h28 ht35
      replace h30 := Sl.tr h30 ht35
      replace hK := Tr.trans hK ht35
      replace hr5 := Tr.trans hr5 ht35
      replace hB := Nat.le_trans hB ht35.ex.size
      replace hA := ht35.new
      refine V_to (fun _ _ => rfl) ?_
      refine C_cond rfl (fun hc36 => ?_) (fun hc36 => ?_)
      · rw [if_pos hc36] at h17
        refine C_seq ?_
        refine C_region ?_
        refine V_y (Y_move rfl) rfl rfl rfl ?_
        refine V_y (Y_assign rfl) rfl rfl rfl ?_
        refine V_to (fun _ _ => rfl) ?_
        obtain rfl := Option.some.inj h17
        obtain rfl := (h18 : Lp.rt _ = _)
        rw [Lp.andThen_rt] at hm
        obtain rfl := Option.some.inj hm
        refine C_ret ?_
        try simp only [↓inBlock_ret, ↓then_ret]
        exact retQ rfl (Res.one Tryd.results50 rfl) ⟨rfl, hK.kp⟩
      · rw [if_neg (nt hc36)] at h17
        refine C_skip_to (fun _ _ => rfl) ?_
        refine C_region ?_
        refine V_y (Y_addI rfl rfl) rfl rfl rfl ?_
        refine V_y (Y_move rfl) rfl rfl rfl ?_
        obtain rfl := Option.some.inj h17
        refine V_end (fun a ha37 => ?_)
        exact ⟨(), hlt20, h18, ⟨A14, ha37.sub ⟨rfl, rfl, rfl, (congrArg (fun z => some (Value.int .i64 z)) (w64_succ hlt20 hn23)), trivial⟩, ⟨hH, hr5⟩⟩⟩
    · refine C_exit (fun a ha38 => ?_)
      exact ⟨((), A14), ha38.sub trivial, ⟨(h21 (eq_of_dec hle19 hc24)).symm, hH, hr5⟩⟩
  rintro ⟨s4, A10⟩ w7 ⟨rfl, hH11, hk8⟩ a ha9
  rw [Lp.andThen_fin] at hm
  replace hK := Tr.trans hK hk8
  replace hB := Nat.le_trans hB hk8.ex.size
  replace hA := hk8.new
  replace hH : Hp w.heap.size A10 w7 ([]) := hH11
  refine C_at (n := ⟨19, [], none⟩) (fun _ _ => rfl) ?_ ha9
  refine C_seq ?_
  refine C_region ?_
  refine V_y (Y_assign rfl) rfl rfl rfl ?_
  refine V_to (fun _ _ => rfl) ?_
  obtain rfl := Option.some.inj hm
  refine C_ret ?_
  try simp only [↓inBlock_ret, ↓then_ret]
  exact retQ rfl (Res.one Tryd.results50 rfl) ⟨rfl, hK.kp⟩

set_option maxRecDepth 4000 in
set_option maxHeartbeats 4000000 in
theorem route_position_1_c (w : World) {A : Nat → Prop} (hA : ∀ b, w.heap.size ≤ b → A b) (p : route_Person) (v_p : Value) (h_p : Sl A w v_p p.skills) (p1 : Int) (b_p1 : Nat) (h_p1 : El A w b_p1 0 p1) {r : Bool} (hm : route_position_1 p p1 = some r) : Ret Tryd.prog 51 #[.agg #[.int .i64 p.no, .int .i64 p.capacity, .int .i64 p.calendar, v_p], .pointer (some ⟨b_p1, 0, none⟩)] w fun v w' => v = .bool r ∧ Kp w w' := by
  unfold route_position_1 at hm
  refine enter Tryd.func51 rfl Tryd.ntmps51 rfl ?_
  have hA0 := hA
  have hB := Nat.le_refl w.heap.size
  have hK : Tr w.heap.size A w A w := Tr.refl hA
  have hH : Hp w.heap.size A w [] := Hp.nil
  refine C_seq ?_
  refine C_region ?_
  refine V_box rfl rfl ?_
  intro b3 w4 h5
  have hk7 := h5.kp
  have h6 : El (α := route_Person) A w4 b3 0 p := h5.el hA ⟨[.int .i64 p.no], _, rfl, rfl, ⟨[.int .i64 p.capacity], _, rfl, rfl, ⟨[.int .i64 p.calendar], _, rfl, rfl, ⟨_, rfl, h_p⟩⟩⟩⟩
  have ht8 := Kp.tr hk7 hA hB
  replace hH := Hp.kp hH hk7
  replace h_p := Sl.tr h_p ht8
  replace h_p1 := El.tr h_p1 ht8
  replace hK := Tr.trans hK ht8
  replace hB := Nat.le_trans hB ht8.ex.size
  replace hA := ht8.new
  refine V_y (Y_assign rfl) rfl rfl rfl ?_
  refine V_to (fun _ _ => rfl) ?_
  refine C_seq ?_
  refine C_region ?_
  have h9 := El_route_Person_0 h6
  refine V_y (Y_fieldAddr Tryd.underlying46 rfl Tryd.sizeOf3 (by decide) rfl) rfl rfl rfl ?_
  refine V_y (Y_load (El.int h9) Tryd.isAgg3 rfl) rfl rfl rfl ?_
  refine V_y (Y_load (El.int h_p1) Tryd.isAgg3 rfl) rfl rfl rfl ?_
  refine V_y (Y_eql rfl rfl) rfl rfl rfl ?_
  refine V_y (Y_assign rfl) rfl rfl rfl ?_
  refine V_to (fun _ _ => rfl) ?_
  obtain rfl := Option.some.inj hm
  refine C_ret ?_
  try simp only [↓inBlock_ret, ↓then_ret]
  exact retQ rfl (Res.one Tryd.results51 rfl) ⟨rfl, hK.kp⟩

set_option maxRecDepth 4000 in
set_option maxHeartbeats 4000000 in
theorem route_position_c (w : World) {A : Nat → Prop} (hA : ∀ b, w.heap.size ≤ b → A b) (people : (List route_Person)) (v_people : Value) (h_people : Sl A w v_people people) (no : Int) {r : Int} (hm : route_position people no = some r) : Ret Tryd.prog 38 #[v_people, .int .i64 no] w fun v w' => v = .int .i64 r ∧ Kp w w' := by
  unfold route_position at hm
  refine enter Tryd.func38 rfl Tryd.ntmps38 rfl ?_
  have hA0 := hA
  have hB := Nat.le_refl w.heap.size
  have hK : Tr w.heap.size A w A w := Tr.refl hA
  have hH : Hp w.heap.size A w [] := Hp.nil
  refine C_seq ?_
  refine C_region ?_
  refine V_box rfl rfl ?_
  intro b3 w4 h5
  have hk7 := h5.kp
  have h6 : El (α := Int) A w4 b3 0 no := h5.el hA rfl
  have ht8 := Kp.tr hk7 hA hB
  replace hH := Hp.kp hH hk7
  replace h_people := Sl.tr h_people ht8
  replace hK := Tr.trans hK ht8
  replace hB := Nat.le_trans hB ht8.ex.size
  replace hA := ht8.new
  refine V_y (Y_assign rfl) rfl rfl rfl ?_
  refine V_to (fun _ _ => rfl) ?_
  refine C_seq ?_
  refine C_region ?_
  refine V_y (Y_move rfl) rfl rfl rfl ?_
  refine V_y (Y_makeFunc rfl rfl) rfl rfl rfl ?_
  obtain ⟨x10, hx10, hm⟩ := Option.bind_eq_some_iff.1 hm
  refine V_call Tryd.call50 rfl rfl rfl rfl (slices_IndexFunc_Lroute_Person_route_Person_c w4 hA people v_people h_people (fun y21 => route_position_1 y21 no) 51 #[] #[.pointer (some ⟨b3, 0, none⟩)] Tryd.call51 (fun w17 A18 ht19 h20 y11 v12 h13 r14 h15 => (route_position_1_c w17 h20 y11 v12 h13 no b3 (El.tr h6 ht19) h15).mono (fun _ _ h => ⟨h.1, h.2⟩)) hx10) ?_
  rintro _ w22 ⟨rfl, hk23⟩
  have ht24 := Kp.tr hk23 hA hB
  replace hH := Hp.kp hH hk23
  replace h_people := Sl.tr h_people ht24
  replace h6 := El.tr h6 ht24
  replace hK := Tr.trans hK ht24
  replace hB := Nat.le_trans hB ht24.ex.size
  replace hA := ht24.new
  refine V_y (Y_assign rfl) rfl rfl rfl ?_
  refine V_to (fun _ _ => rfl) ?_
  obtain rfl := Option.some.inj hm
  refine C_ret ?_
  try simp only [↓inBlock_ret, ↓then_ret]
  exact retQ rfl (Res.one Tryd.results38 rfl) ⟨rfl, hK.kp⟩

set_option maxRecDepth 4000 in
set_option maxHeartbeats 4000000 in
theorem route_checkHeld_c (w : World) {A : Nat → Prop} (hA : ∀ b, w.heap.size ≤ b → A b) (people : (List route_Person)) (v_people : Value) (h_people : Sl A w v_people people) (l : (List route_Held)) (v_l : Value) (h_l : Sl A w v_l l) {r : Int} (hm : route_checkHeld people l = some r) : Ret Tryd.prog 22 #[v_people, v_l] w fun v w' => v = .int .i64 r ∧ Kp w w' := by
  unfold route_checkHeld at hm
  refine enter Tryd.func22 rfl Tryd.ntmps22 rfl ?_
  have hA0 := hA
  have hB := Nat.le_refl w.heap.size
  have hK : Tr w.heap.size A w A w := Tr.refl hA
  have hH : Hp w.heap.size A w [] := Hp.nil
  refine C_seq ?_
  refine C_region ?_
  refine V_y (Y_assign rfl) rfl rfl rfl ?_
  refine V_to (fun _ _ => rfl) ?_
  refine C_seq ?_
  refine C_seq ?_
  refine C_region ?_
  refine V_y (Y_move rfl) rfl rfl rfl ?_
  refine V_y (Y_lenSl h_l rfl Tryd.underlying23 rfl) rfl rfl rfl ?_
  refine V_y (Y_gtr rfl rfl) rfl rfl rfl ?_
  refine V_to (fun _ _ => rfl) ?_
  refine C_cond rfl (fun hc5 => ?_) (fun hc5 => ?_)
  · rw [if_pos hc5] at hm
    refine C_seq ?_
    refine C_region ?_
    refine V_y (Y_assign rfl) rfl rfl rfl ?_
    refine V_to (fun _ _ => rfl) ?_
    obtain rfl := Option.some.inj hm
    refine C_ret ?_
    try simp only [↓inBlock_ret, ↓then_ret]
    exact retQ rfl (Res.one Tryd.results22 rfl) ⟨rfl, hK.kp⟩
  · rw [if_neg (nt hc5)] at hm
    refine C_skip_to (fun _ _ => rfl) ?_
    refine C_seq ?_
    refine C_seq ?_
    refine C_region ?_
    refine V_y (Y_move rfl) rfl rfl rfl ?_
    refine V_y (Y_lenSl h_l rfl Tryd.underlying23 rfl) rfl rfl rfl ?_
    refine V_y (Y_move rfl) rfl rfl rfl ?_
    refine V_to (fun _ _ => rfl) ?_
    have hn27 := Sl.le h_l
    obtain ⟨o6, ho6, hm⟩ := Option.bind_eq_some_iff.1 hm
    refine C_cutG (ι := (Unit × (Nat → Prop))) (fun ⟨s7, A13⟩ => []) (fun ⟨s7, A13⟩ => fun w' => o6 = .fin s7 ∧ Hp w.heap.size A13 w' ([]) ∧ Tr w.heap.size A w A13 w') ?_ ?_
    · refine C_block ?_
      refine C_range ho6 (fun k9 _ a w' => ∃ i : (Nat → Prop), Has ⟨54, [], none⟩ a ([(0, v_people), (1, v_l), (10, v_l), (11, .int .i64 (l.length : Int)), (12, .int .i64 (k9 : Int))]) ∧ Hp w.heap.size i w' ([]) ∧ Tr w.heap.size A w i w') (fun a ha => ⟨A, ha.sub ⟨rfl, rfl, rfl, rfl, rfl, trivial⟩, ⟨hH, Tr.refl hA⟩⟩) ?_
      rintro K k9 _ a w17 ⟨A18, ha69, hH19, hr8⟩ hle23 K26 h25
      refine C_of ?_ ha69
      replace h_people := Sl.tr h_people hr8
      replace h_l := Sl.tr h_l hr8
      replace hK := Tr.trans hK hr8
      replace hB := Nat.le_trans hB hr8.ex.size
      replace hA := hr8.new
      replace hH : Hp w.heap.size A18 w17 ([]) := hH19
      refine C_seq (C_region (V_y (Y_lss rfl rfl) rfl rfl rfl (V_to (fun _ _ => rfl) ?_)))
      refine C_seq ?_
      refine C_cond rfl (fun hc28 => ?_) (fun hc28 => ?_)
      · have hlt24 := lt_of_dec hc28
        obtain ⟨x20, h21, h22⟩ := K26 hlt24
        refine C_skip_to (fun _ _ => rfl) ?_
        refine C_seq ?_
        refine C_block ?_
        refine C_seq ?_
        refine C_region ?_
        refine V_y (Y_move rfl) rfl rfl rfl ?_
        obtain ⟨x29, hx29, h21⟩ := Option.bind_eq_some_iff.1 h21
        refine V_indexAddr h_l hx29 Tryd.underlying23 Tryd.sizeOf62 rfl rfl rfl ?_
        intro b30 o31 h32
        obtain ⟨h33, _⟩ := El_route_Held h32
        refine V_y (Y_loadA h33 Tryd.isAgg62 Tryd.sizeOf62 rfl) rfl rfl rfl ?_
        refine V_alloc Tryd.zeroValue62 rfl ?_
        intro b34 w35 h36
        refine V_y (Y_assign rfl) rfl rfl rfl ?_
        refine V_storeNew h36 Tryd.sizeOf62 rfl rfl rfl rfl (by exact (List.forall_mem_cons.2 ⟨rfl, (List.forall_mem_cons.2 ⟨rfl, (List.forall_mem_cons.2 ⟨rfl, (List.forall_mem_cons.2 ⟨rfl, (fun _ h => nomatch h)⟩)⟩)⟩)⟩)) ?_
        intro w37 h38
        have hk40 := h38.kp
        have h39 : El (α := route_Held) A18 w37 b34 0 x29 := h38.el hA ⟨[.int .i64 x29.ticket], _, rfl, rfl, ⟨[.int .i64 x29.person], _, rfl, rfl, ⟨[.int .i64 x29.weight], _, rfl, rfl, rfl⟩⟩⟩
        have ht41 := Kp.tr hk40 hA hB
        replace hH := Hp.kp hH hk40
        replace h_people := Sl.tr h_people ht41
        replace h_l := Sl.tr h_l ht41
        replace h32 := El.tr h32 ht41
        replace hK := Tr.trans hK ht41
        replace hr8 := Tr.trans hr8 ht41
        replace hB := Nat.le_trans hB ht41.ex.size
        replace hA := ht41.new
        refine V_to (fun _ _ => rfl) ?_
        refine C_block ?_
        refine C_seq ?_
        refine C_region ?_
        have h42 := El_route_Held_0 h39
        refine V_y (Y_fieldAddr Tryd.underlying62 rfl Tryd.sizeOf3 (by decide) rfl) rfl rfl rfl ?_
        refine V_y (Y_load (El.int h42) Tryd.isAgg3 rfl) rfl rfl rfl ?_
        refine V_call Tryd.call39 rfl rfl rfl rfl (route_within_c w37 x29.ticket 1 400) ?_
        rintro _ _ ⟨rfl, rfl⟩
        refine V_y (Y_not rfl) rfl rfl rfl ?_
        refine V_y (Y_assign rfl) rfl rfl rfl ?_
        refine V_to (fun _ _ => rfl) ?_
        refine C_cond rfl (fun hc43 => ?_) (fun hc43 => ?_)
        · rw [if_pos hc43] at h21
          refine C_seq ?_
          refine C_region ?_
          refine V_y (Y_assign rfl) rfl rfl rfl ?_
          refine V_to (fun _ _ => rfl) ?_
          obtain rfl := Option.some.inj h21
          obtain rfl := (h22 : Lp.rt _ = _)
          rw [Lp.andThen_rt] at hm
          obtain rfl := Option.some.inj hm
          refine C_ret ?_
          try simp only [↓inBlock_ret, ↓then_ret]
          exact retQ rfl (Res.one Tryd.results22 rfl) ⟨rfl, hK.kp⟩
        · rw [if_neg (nt hc43)] at h21
          refine C_seq ?_
          refine C_region_q Tryd_mixed (by kernel_rfl) ?_
          refine VQ_y (fun w' hw' => Y_move rfl) rfl rfl rfl ?_
          refine VQ_y (fun w' hw' => Y_gtr rfl rfl) rfl rfl rfl ?_
          refine VQ_y (fun w' hw' => Y_move rfl) rfl rfl rfl ?_
          obtain ⟨s45, hs45, h21⟩ := Option.bind_eq_some_iff.1 h21
          refine VQ_cut 10 (fun _ : Unit => [(0, v_people), (1, v_l), (6, .pointer (some ⟨b34, 0, none⟩)), (10, v_l), (11, .int .i64 (l.length : Int)), (12, .int .i64 (k9 : Int)), (35, .bool s45)]) (fun _ => True) ?_ ?_
          · simp only [List.take, List.drop]
            rcases Bool.eq_false_or_eq_true (decide ((0 : Int) < (k9 : Int))) with hc44 | hc44
            · rw [if_pos hc44] at hs45
              refine VQ_ge rfl rfl rfl hc44 ?_
              have h46 := El_route_Held_0 h39
              refine VQ_y (fun w' hw' => Y_fieldAddr Tryd.underlying62 rfl Tryd.sizeOf3 (by decide) rfl) rfl rfl rfl ?_
              refine VQ_ge rfl rfl rfl hc44 ?_
              refine VQ_y (fun w' hw' => Y_load (El.int (El.kp h46 hw')) Tryd.isAgg3 rfl) rfl rfl rfl ?_
              refine VQ_ge rfl rfl rfl hc44 ?_
              refine VQ_y (fun w' hw' => Y_move rfl) rfl rfl rfl ?_
              refine VQ_ge rfl rfl rfl hc44 ?_
              refine VQ_y (fun w' hw' => Y_move rfl) rfl rfl rfl ?_
              refine VQ_ge rfl rfl rfl hc44 ?_
              refine VQ_y (fun w' hw' => Y_subI rfl rfl) rfl rfl rfl ?_
              refine VQ_ge rfl rfl rfl hc44 ?_
              obtain ⟨x47, hx47, hs45⟩ := Option.bind_eq_some_iff.1 hs45
              refine VQ_indexAddr h_l hx47 Tryd.underlying23 Tryd.sizeOf62 rfl rfl rfl ?_
              intro b48 o49 h50
              refine VQ_ge rfl rfl rfl hc44 ?_
              have h51 := El_route_Held_0 h50
              refine VQ_y (fun w' hw' => Y_fieldAddr Tryd.underlying62 rfl Tryd.sizeOf3 (by decide) rfl) rfl rfl rfl ?_
              refine VQ_ge rfl rfl rfl hc44 ?_
              refine VQ_y (fun w' hw' => Y_load (El.int (El.kp h51 hw')) Tryd.isAgg3 rfl) rfl rfl rfl ?_
              refine VQ_ge rfl rfl rfl hc44 ?_
              refine VQ_y (fun w' hw' => Y_leq rfl rfl) rfl rfl rfl ?_
              refine VQ_y (fun _ _ => Y_pick_te rfl hc44 rfl) rfl rfl rfl ?_
              obtain rfl := Option.some.inj hs45
              exact VQ_end fun a ha => ⟨(), ha.sub ⟨rfl, rfl, rfl, rfl, rfl, rfl, rfl, trivial⟩, trivial⟩
            · rw [if_neg (nt hc44)] at hs45
              refine VQ_gn rfl rfl rfl hc44 rfl rfl rfl ?_
              refine VQ_gn rfl rfl rfl hc44 rfl rfl rfl ?_
              refine VQ_gn rfl rfl rfl hc44 rfl rfl rfl ?_
              refine VQ_gn rfl rfl rfl hc44 rfl rfl rfl ?_
              refine VQ_gn rfl rfl rfl hc44 rfl rfl rfl ?_
              refine VQ_gn rfl rfl rfl hc44 rfl rfl rfl ?_
              refine VQ_gn rfl rfl rfl hc44 rfl rfl rfl ?_
              refine VQ_gn rfl rfl rfl hc44 rfl rfl rfl ?_
              refine VQ_gn rfl rfl rfl hc44 rfl rfl rfl ?_
              refine VQ_y (fun _ _ => Y_pick_fe rfl hc44 rfl) rfl rfl rfl ?_
              obtain rfl := Option.some.inj hs45
              exact VQ_end fun a ha => ⟨(), ha.sub ⟨rfl, rfl, rfl, rfl, rfl, rfl, rfl, trivial⟩, trivial⟩
          simp only [List.take, List.drop]
          rintro _ _
          refine VQ_y (fun w' hw' => Y_assign rfl) rfl rfl rfl ?_
          refine VQ_to (fun _ _ => rfl) (fun w52 hk53 => ?_)
          have ht54 := Kp.tr hk53 hA hB
          replace hH := Hp.kp hH hk53
          replace h_people := Sl.tr h_people ht54
          replace h_l := Sl.tr h_l ht54
          replace h39 := El.tr h39 ht54
          replace hK := Tr.trans hK ht54
          replace hr8 := Tr.trans hr8 ht54
          replace hB := Nat.le_trans hB ht54.ex.size
          replace hA := ht54.new
          refine C_cond rfl (fun hc55 => ?_) (fun hc55 => ?_)
          · rw [if_pos hc55] at h21
            refine C_seq ?_
            refine C_region ?_
            refine V_y (Y_assign rfl) rfl rfl rfl ?_
            refine V_to (fun _ _ => rfl) ?_
            obtain rfl := Option.some.inj h21
            obtain rfl := (h22 : Lp.rt _ = _)
            rw [Lp.andThen_rt] at hm
            obtain rfl := Option.some.inj hm
            refine C_ret ?_
            try simp only [↓inBlock_ret, ↓then_ret]
            exact retQ rfl (Res.one Tryd.results22 rfl) ⟨rfl, hK.kp⟩
          · rw [if_neg (nt hc55)] at h21
            refine C_seq ?_
            refine C_region ?_
            refine V_y (Y_move rfl) rfl rfl rfl ?_
            have h56 := El_route_Held_1 h39
            refine V_y (Y_fieldAddr Tryd.underlying62 rfl Tryd.sizeOf3 (by decide) rfl) rfl rfl rfl ?_
            refine V_y (Y_load (El.int h56) Tryd.isAgg3 rfl) rfl rfl rfl ?_
            obtain ⟨x57, hx57, h21⟩ := Option.bind_eq_some_iff.1 h21
            refine V_call Tryd.call38 rfl rfl rfl rfl (route_position_c w52 hA people v_people h_people x29.person hx57) ?_
            rintro _ w58 ⟨rfl, hk59⟩
            have ht60 := Kp.tr hk59 hA hB
            replace hH := Hp.kp hH hk59
            replace h_people := Sl.tr h_people ht60
            replace h_l := Sl.tr h_l ht60
            replace h39 := El.tr h39 ht60
            replace h56 := El.tr h56 ht60
            replace hK := Tr.trans hK ht60
            replace hr8 := Tr.trans hr8 ht60
            replace hB := Nat.le_trans hB ht60.ex.size
            replace hA := ht60.new
            refine V_y (Y_lss rfl rfl) rfl rfl rfl ?_
            refine V_y (Y_assign rfl) rfl rfl rfl ?_
            refine V_to (fun _ _ => rfl) ?_
            refine C_cond rfl (fun hc61 => ?_) (fun hc61 => ?_)
            · rw [if_pos hc61] at h21
              refine C_seq ?_
              refine C_region ?_
              refine V_y (Y_assign rfl) rfl rfl rfl ?_
              refine V_to (fun _ _ => rfl) ?_
              obtain rfl := Option.some.inj h21
              obtain rfl := (h22 : Lp.rt _ = _)
              rw [Lp.andThen_rt] at hm
              obtain rfl := Option.some.inj hm
              refine C_ret ?_
              try simp only [↓inBlock_ret, ↓then_ret]
              exact retQ rfl (Res.one Tryd.results22 rfl) ⟨rfl, hK.kp⟩
            · rw [if_neg (nt hc61)] at h21
              refine C_seq ?_
              refine C_region ?_
              have h62 := El_route_Held_2 h39
              refine V_y (Y_fieldAddr Tryd.underlying62 rfl Tryd.sizeOf3 (by decide) rfl) rfl rfl rfl ?_
              refine V_y (Y_load (El.int h62) Tryd.isAgg3 rfl) rfl rfl rfl ?_
              refine V_call Tryd.call39 rfl rfl rfl rfl (route_within_c w58 x29.weight 1 20) ?_
              rintro _ _ ⟨rfl, rfl⟩
              refine V_y (Y_not rfl) rfl rfl rfl ?_
              refine V_y (Y_move rfl) rfl rfl rfl ?_
              refine V_cut 5 (fun _ : Unit => [(0, v_people), (1, v_l), (10, v_l), (11, .int .i64 (l.length : Int)), (12, .int .i64 (k9 : Int)), (52, .bool ((!(route_within x29.weight 1 20)) || (!(route_within x29.since 0 3000000))))]) (fun _ w' => w58 = w') ?_ ?_
              · simp only [List.take, List.drop]
                rcases Bool.eq_false_or_eq_true (!(route_within x29.weight 1 20)) with hc63 | hc63
                · refine V_gn rfl rfl rfl hc63 rfl rfl rfl ?_
                  refine V_gn rfl rfl rfl hc63 rfl rfl rfl ?_
                  refine V_gn rfl rfl rfl hc63 rfl rfl rfl ?_
                  refine V_gn rfl rfl rfl hc63 rfl rfl rfl ?_
                  refine V_y (Y_pick_te rfl hc63 rfl) rfl rfl rfl ?_
                  exact V_end fun a ha => ⟨(), ha.sub ⟨rfl, rfl, rfl, rfl, rfl, (by rw [hc63]; rfl), trivial⟩, rfl⟩
                · refine V_ge rfl rfl rfl hc63 ?_
                  have h65 := El_route_Held_3 h39
                  refine V_y (Y_fieldAddr Tryd.underlying62 rfl Tryd.sizeOf3 (by decide) rfl) rfl rfl rfl ?_
                  refine V_ge rfl rfl rfl hc63 ?_
                  refine V_y (Y_load (El.int h65) Tryd.isAgg3 rfl) rfl rfl rfl ?_
                  refine V_ge rfl rfl rfl hc63 ?_
                  refine V_call Tryd.call39 rfl rfl rfl rfl (route_within_c w58 x29.since 0 3000000) ?_
                  rintro _ _ ⟨rfl, rfl⟩
                  refine V_ge rfl rfl rfl hc63 ?_
                  refine V_y (Y_not rfl) rfl rfl rfl ?_
                  refine V_y (Y_pick_fe rfl hc63 rfl) rfl rfl rfl ?_
                  exact V_end fun a ha => ⟨(), ha.sub ⟨rfl, rfl, rfl, rfl, rfl, (by rw [hc63]; rfl), trivial⟩, rfl⟩
              simp only [List.take, List.drop]
              rintro _ _ rfl
              refine V_y (Y_assign rfl) rfl rfl rfl ?_
              refine V_to (fun _ _ => rfl) ?_
              refine C_cond rfl (fun hc66 => ?_) (fun hc66 => ?_)
              · rw [if_pos hc66] at h21
                refine C_seq ?_
                refine C_region ?_
                refine V_y (Y_assign rfl) rfl rfl rfl ?_
                refine V_to (fun _ _ => rfl) ?_
                obtain rfl := Option.some.inj h21
                obtain rfl := (h22 : Lp.rt _ = _)
                rw [Lp.andThen_rt] at hm
                obtain rfl := Option.some.inj hm
                refine C_ret ?_
                try simp only [↓inBlock_ret, ↓then_ret]
                exact retQ rfl (Res.one Tryd.results22 rfl) ⟨rfl, hK.kp⟩
              · rw [if_neg (nt hc66)] at h21
                refine C_skip_to (fun _ _ => rfl) ?_
                refine C_region ?_
                refine V_y (Y_addI rfl rfl) rfl rfl rfl ?_
                refine V_y (Y_move rfl) rfl rfl rfl ?_
                obtain rfl := Option.some.inj h21
                refine V_end (fun a ha67 => ?_)
                exact ⟨(), hlt24, h22, ⟨A18, ha67.sub ⟨rfl, rfl, rfl, rfl, (congrArg (fun z => some (Value.int .i64 z)) (w64_succ hlt24 hn27)), trivial⟩, ⟨hH, hr8⟩⟩⟩
      · refine C_exit (fun a ha68 => ?_)
        exact ⟨((), A18), ha68.sub trivial, ⟨(h25 (eq_of_dec hle23 hc28)).symm, hH, hr8⟩⟩
    rintro ⟨s7, A13⟩ w10 ⟨rfl, hH14, hk11⟩ a ha12
    rw [Lp.andThen_fin] at hm
    replace hK := Tr.trans hK hk11
    replace hB := Nat.le_trans hB hk11.ex.size
    replace hA := hk11.new
    replace hH : Hp w.heap.size A13 w10 ([]) := hH14
    refine C_at (n := ⟨54, [], none⟩) (fun _ _ => rfl) ?_ ha12
    refine C_seq ?_
    refine C_region ?_
    refine V_y (Y_assign rfl) rfl rfl rfl ?_
    refine V_to (fun _ _ => rfl) ?_
    obtain rfl := Option.some.inj hm
    refine C_ret ?_
    try simp only [↓inBlock_ret, ↓then_ret]
    exact retQ rfl (Res.one Tryd.results22 rfl) ⟨rfl, hK.kp⟩

set_option maxRecDepth 4000 in
set_option maxHeartbeats 4000000 in
theorem route_CheckHeld_c (w : World) {A : Nat → Prop} (hA : ∀ b, w.heap.size ≤ b → A b) (people : (List route_Person)) (v_people : Value) (h_people : Sl A w v_people people) (l : (List route_Held)) (v_l : Value) (h_l : Sl A w v_l l) {r : Int} (hm : route_CheckHeld people l = some r) : Ret Tryd.prog 10 #[v_people, v_l] w fun v w' => v = .int .i64 r ∧ Kp w w' := by
  unfold route_CheckHeld at hm
  refine enter Tryd.func10 rfl Tryd.ntmps10 rfl ?_
  have hA0 := hA
  have hB := Nat.le_refl w.heap.size
  have hK : Tr w.heap.size A w A w := Tr.refl hA
  have hH : Hp w.heap.size A w [] := Hp.nil
  refine C_seq ?_
  refine C_region ?_
  refine V_y (Y_assign rfl) rfl rfl rfl ?_
  refine V_to (fun _ _ => rfl) ?_
  refine C_seq ?_
  refine C_seq ?_
  refine C_region ?_
  refine V_y (Y_move rfl) rfl rfl rfl ?_
  obtain ⟨x5, hx5, hm⟩ := Option.bind_eq_some_iff.1 hm
  refine V_call Tryd.call21 rfl rfl rfl rfl (route_CheckPeople_c w hA people v_people h_people hx5) ?_
  rintro _ w6 ⟨rfl, hk7⟩
  have ht8 := Kp.tr hk7 hA hB
  replace hH := Hp.kp hH hk7
  replace h_people := Sl.tr h_people ht8
  replace h_l := Sl.tr h_l ht8
  replace hK := Tr.trans hK ht8
  replace hB := Nat.le_trans hB ht8.ex.size
  replace hA := ht8.new
  refine V_y (Y_assign rfl) rfl rfl rfl ?_
  refine V_to (fun _ _ => rfl) ?_
  refine C_seq ?_
  refine C_region ?_
  refine V_y (Y_move rfl) rfl rfl rfl ?_
  refine V_y (Y_neq rfl rfl) rfl rfl rfl ?_
  refine V_to (fun _ _ => rfl) ?_
  refine C_cond rfl (fun hc9 => ?_) (fun hc9 => ?_)
  · rw [if_pos hc9] at hm
    refine C_seq ?_
    refine C_region ?_
    refine V_y (Y_move rfl) rfl rfl rfl ?_
    refine V_y (Y_assign rfl) rfl rfl rfl ?_
    refine V_to (fun _ _ => rfl) ?_
    obtain rfl := Option.some.inj hm
    refine C_ret ?_
    try simp only [↓inBlock_ret, ↓then_ret]
    exact retQ rfl (Res.one Tryd.results10 rfl) ⟨rfl, hK.kp⟩
  · rw [if_neg (nt hc9)] at hm
    refine C_skip_to (fun _ _ => rfl) ?_
    refine C_seq ?_
    refine C_region ?_
    refine V_y (Y_move rfl) rfl rfl rfl ?_
    refine V_y (Y_move rfl) rfl rfl rfl ?_
    obtain ⟨x10, hx10, hm⟩ := Option.bind_eq_some_iff.1 hm
    refine V_call Tryd.call22 rfl rfl rfl rfl (route_checkHeld_c w6 hA people v_people h_people l v_l h_l hx10) ?_
    rintro _ w11 ⟨rfl, hk12⟩
    have ht13 := Kp.tr hk12 hA hB
    replace hH := Hp.kp hH hk12
    replace h_people := Sl.tr h_people ht13
    replace h_l := Sl.tr h_l ht13
    replace hK := Tr.trans hK ht13
    replace hB := Nat.le_trans hB ht13.ex.size
    replace hA := ht13.new
    refine V_y (Y_assign rfl) rfl rfl rfl ?_
    refine V_to (fun _ _ => rfl) ?_
    obtain rfl := Option.some.inj hm
    refine C_ret ?_
    try simp only [↓inBlock_ret, ↓then_ret]
    exact retQ rfl (Res.one Tryd.results10 rfl) ⟨rfl, hK.kp⟩

set_option maxRecDepth 4000 in
set_option maxHeartbeats 4000000 in
theorem route_weights_c (w : World) {A : Nat → Prop} (hA : ∀ b, w.heap.size ≤ b → A b) (people : (List route_Person)) (v_people : Value) (h_people : Sl A w v_people people) (held : (List route_Held)) (v_held : Value) (h_held : Sl A w v_held held) {r : (List Int)} (hm : route_weights people held = some r) : Ret Tryd.prog 17 #[v_people, v_held] w fun v w' => ∃ s0, v = s0 ∧ Ownd 3 w w' s0 r ∧ Kp w w' := by
  unfold route_weights at hm
  refine enter Tryd.func17 rfl Tryd.ntmps17 rfl ?_
  have hA0 := hA
  have hB := Nat.le_refl w.heap.size
  have hK : Tr w.heap.size A w A w := Tr.refl hA
  have hH : Hp w.heap.size A w [] := Hp.nil
  refine C_seq ?_
  refine C_region ?_
  refine V_y (Y_assign rfl) rfl rfl rfl ?_
  refine V_to (fun _ _ => rfl) ?_
  refine C_seq ?_
  refine C_region ?_
  refine V_y (Y_move rfl) rfl rfl rfl ?_
  refine V_y (Y_lenSl h_people rfl Tryd.underlying22 rfl) rfl rfl rfl ?_
  obtain ⟨x5, hx5, hm⟩ := Option.bind_eq_some_iff.1 hm
  refine V_makeH (e := 3) (ti := Tryd.t3) hH hx5 (fun _ _ => rfl) Tryd.underlying24 Tryd_info3 rfl rfl rfl (by decide) (by decide) hB hA rfl rfl rfl ?_
  intro v6 w7 A8 hH9 ht10
  replace h_people := Sl.tr h_people ht10
  replace h_held := Sl.tr h_held ht10
  replace hK := Tr.trans hK ht10
  replace hB := Nat.le_trans hB ht10.ex.size
  replace hA := ht10.new
  replace hH : Hp w.heap.size A8 w7 (obS (α := Int) 3 v6 x5 :: []) := hH9
  refine V_y (Y_assign rfl) rfl rfl rfl ?_
  refine V_to (fun _ _ => rfl) ?_
  refine C_seq ?_
  refine C_seq ?_
  refine C_region ?_
  refine V_y (Y_move rfl) rfl rfl rfl ?_
  refine V_y (Y_lenSl h_held rfl Tryd.underlying23 rfl) rfl rfl rfl ?_
  refine V_y (Y_move rfl) rfl rfl rfl ?_
  refine V_to (fun _ _ => rfl) ?_
  have hn35 := Sl.le h_held
  obtain ⟨o11, ho11, hm⟩ := Option.bind_eq_some_iff.1 hm
  refine C_cutG (ι := ((List Int) × Value × (Nat → Prop))) (fun ⟨s12, v18, A20⟩ => [(5, v18)]) (fun ⟨s12, v18, A20⟩ => fun w' => o11 = .fin s12 ∧ Hp w.heap.size A20 w' (obS (α := Int) 3 v18 s12 :: []) ∧ Tr w.heap.size A8 w7 A20 w') ?_ ?_
  · refine C_block ?_
    refine C_range ho11 (fun k14 s22 a w' => ∃ i : (Value × (Nat → Prop)), Has ⟨30, [], none⟩ a ([(0, v_people), (5, i.1), (11, v_held), (12, .int .i64 (held.length : Int)), (13, .int .i64 (k14 : Int))]) ∧ Hp w.heap.size i.2 w' (obS (α := Int) 3 i.1 s22 :: []) ∧ Tr w.heap.size A8 w7 i.2 w') (fun a ha => ⟨(v6, A8), ha.sub ⟨rfl, rfl, rfl, rfl, rfl, trivial⟩, ⟨hH, Tr.refl hA⟩⟩) ?_
    rintro K k14 s22 a w23 ⟨⟨v24, A26⟩, ha71, hH27, hr13⟩ hle31 K34 h33
    refine C_of ?_ ha71
    replace h_people := Sl.tr h_people hr13
    replace h_held := Sl.tr h_held hr13
    replace hK := Tr.trans hK hr13
    replace hB := Nat.le_trans hB hr13.ex.size
    replace hA := hr13.new
    replace hH : Hp w.heap.size A26 w23 (obS (α := Int) 3 v24 s22 :: []) := hH27
    refine C_seq (C_region (V_y (Y_lss rfl rfl) rfl rfl rfl (V_to (fun _ _ => rfl) ?_)))
    refine C_seq ?_
    refine C_cond rfl (fun hc36 => ?_) (fun hc36 => ?_)
    · have hlt32 := lt_of_dec hc36
      obtain ⟨x28, h29, h30⟩ := K34 hlt32
      refine C_skip_to (fun _ _ => rfl) ?_
      refine C_seq ?_
      refine C_block ?_
      refine C_seq ?_
      refine C_region ?_
      obtain ⟨x37, hx37, h29⟩ := Option.bind_eq_some_iff.1 h29
      refine V_indexAddr h_held hx37 Tryd.underlying23 Tryd.sizeOf62 rfl rfl rfl ?_
      intro b38 o39 h40
      obtain ⟨h41, _⟩ := El_route_Held h40
      refine V_y (Y_loadA h41 Tryd.isAgg62 Tryd.sizeOf62 rfl) rfl rfl rfl ?_
      refine V_alloc Tryd.zeroValue62 rfl ?_
      intro b42 w43 h44
      refine V_storeNew h44 Tryd.sizeOf62 rfl rfl rfl rfl (by exact (List.forall_mem_cons.2 ⟨rfl, (List.forall_mem_cons.2 ⟨rfl, (List.forall_mem_cons.2 ⟨rfl, (List.forall_mem_cons.2 ⟨rfl, (fun _ h => nomatch h)⟩)⟩)⟩)⟩)) ?_
      intro w45 h46
      have hk48 := h46.kp
      have h47 : El (α := route_Held) A26 w45 b42 0 x37 := h46.el hA ⟨[.int .i64 x37.ticket], _, rfl, rfl, ⟨[.int .i64 x37.person], _, rfl, rfl, ⟨[.int .i64 x37.weight], _, rfl, rfl, rfl⟩⟩⟩
      have ht49 := Kp.tr hk48 hA hB
      replace hH := Hp.kp hH hk48
      replace h_people := Sl.tr h_people ht49
      replace h_held := Sl.tr h_held ht49
      replace h40 := El.tr h40 ht49
      replace hK := Tr.trans hK ht49
      replace hr13 := Tr.trans hr13 ht49
      replace hB := Nat.le_trans hB ht49.ex.size
      replace hA := ht49.new
      refine V_to (fun _ _ => rfl) ?_
      refine C_region_qt 11 Tryd_mixed (by kernel_rfl) ?_
      simp only [List.take, List.drop]
      refine VQ_y (fun w' hw' => Y_move rfl) rfl rfl rfl ?_
      refine VQ_y (fun w' hw' => Y_move rfl) rfl rfl rfl ?_
      have h50 := El_route_Held_1 h47
      refine VQ_y (fun w' hw' => Y_fieldAddr Tryd.underlying62 rfl Tryd.sizeOf3 (by decide) rfl) rfl rfl rfl ?_
      refine VQ_y (fun w' hw' => Y_load (El.int (El.kp h50 hw')) Tryd.isAgg3 rfl) rfl rfl rfl ?_
      obtain ⟨x51, hx51, h29⟩ := Option.bind_eq_some_iff.1 h29
      refine VQ_call (.int .i64 x51) Tryd.call38 rfl rfl rfl rfl (fun w' hw' => (route_position_c w' (fun b hb => hA b (Nat.le_trans hw'.size hb)) people v_people (Sl.kp h_people hw') x37.person hx51).mono (fun _ _ h => ⟨h.1, Kp.trans hw' h.2⟩)) ?_
      obtain ⟨x52, hx52, h29⟩ := Option.bind_eq_some_iff.1 h29
      refine VQ_indexAddrH (α := Int) (e := 3) (v := v24) (l := s22) hH (i := 0) rfl hx52 Tryd.underlying24 Tryd.sizeOf3 rfl rfl rfl ?_
      intro b53 o54 h55 hl56
      refine VQ_y (fun w' hw' => Y_load (El.int (El.kp h55 hw')) Tryd.isAgg3 rfl) rfl rfl rfl ?_
      have h57 := El_route_Held_2 h47
      refine VQ_y (fun w' hw' => Y_fieldAddr Tryd.underlying62 rfl Tryd.sizeOf3 (by decide) rfl) rfl rfl rfl ?_
      refine VQ_y (fun w' hw' => Y_load (El.int (El.kp h57 hw')) Tryd.isAgg3 rfl) rfl rfl rfl ?_
      refine VQ_y (fun w' hw' => Y_addI rfl rfl) rfl rfl rfl ?_
      refine VQ_indexAddrH (α := Int) (e := 3) (v := v24) (l := s22) hH (i := 0) rfl hx52 Tryd.underlying24 Tryd.sizeOf3 rfl rfl rfl ?_
      intro b58 o59 h60 hl61
      refine VQ_tail (fun w62 hk63 => ?_)
      try simp only [List.take, List.drop]
      have ht64 := Kp.tr hk63 hA hB
      replace hH := Hp.kp hH hk63
      replace h_people := Sl.tr h_people ht64
      replace h_held := Sl.tr h_held ht64
      replace h47 := El.tr h47 ht64
      replace h50 := El.tr h50 ht64
      replace h55 := El.kp h55 hk63
      replace h57 := El.tr h57 ht64
      replace h60 := El.kp h60 hk63
      replace hK := Tr.trans hK ht64
      replace hr13 := Tr.trans hr13 ht64
      replace hB := Nat.le_trans hB ht64.ex.size
      replace hA := ht64.new
      obtain ⟨x65, hx65, h29⟩ := Option.bind_eq_some_iff.1 h29
      refine V_storeH (α := Int) (e := 3) (v := v24) (l := s22) hH (i := 0) rfl hl61 hx65 rfl Tryd.sizeOf3 rfl hB hA rfl rfl ?_
      intro w66 hH67 ht68
      replace h_people := Sl.tr h_people ht68
      replace h_held := Sl.tr h_held ht68
      replace h47 := El.tr h47 ht68
      replace h50 := El.tr h50 ht68
      replace h57 := El.tr h57 ht68
      replace hK := Tr.trans hK ht68
      replace hr13 := Tr.trans hr13 ht68
      replace hB := Nat.le_trans hB ht68.ex.size
      replace hA := ht68.new
      replace hH : Hp w.heap.size A26 w66 (obS (α := Int) 3 v24 x65 :: []) := hH67
      refine V_to (fun _ _ => rfl) ?_
      refine C_region ?_
      refine V_y (Y_addI rfl rfl) rfl rfl rfl ?_
      refine V_y (Y_move rfl) rfl rfl rfl ?_
      obtain rfl := Option.some.inj h29
      refine V_end (fun a ha69 => ?_)
      exact ⟨x65, hlt32, h30, ⟨(v24, A26), ha69.sub ⟨rfl, rfl, rfl, rfl, (congrArg (fun z => some (Value.int .i64 z)) (w64_succ hlt32 hn35)), trivial⟩, ⟨hH, hr13⟩⟩⟩
    · refine C_exit (fun a ha70 => ?_)
      exact ⟨(s22, v24, A26), ha70.sub ⟨rfl, trivial⟩, ⟨(h33 (eq_of_dec hle31 hc36)).symm, hH, hr13⟩⟩
  rintro ⟨s12, v18, A20⟩ w15 ⟨rfl, hH21, hk16⟩ a ha17
  rw [Lp.andThen_fin] at hm
  replace hK := Tr.trans hK hk16
  replace hB := Nat.le_trans hB hk16.ex.size
  replace hA := hk16.new
  replace hH : Hp w.heap.size A20 w15 (obS (α := Int) 3 v18 s12 :: []) := hH21
  refine C_at (n := ⟨30, [], none⟩) (fun _ _ => rfl) ?_ ha17
  refine C_seq ?_
  refine C_region ?_
  refine V_y (Y_move rfl) rfl rfl rfl ?_
  refine V_y (Y_assign rfl) rfl rfl rfl ?_
  refine V_to (fun _ _ => rfl) ?_
  obtain rfl := Option.some.inj hm
  refine C_ret ?_
  try simp only [↓inBlock_ret, ↓then_ret]
  exact retQ rfl (Res.one Tryd.results17 rfl) ⟨v18, rfl, (Hp.ownd hH (i := 0) rfl), hK.kp⟩

set_option maxRecDepth 4000 in
set_option maxHeartbeats 4000000 in
theorem route_Room_c (w : World) {A : Nat → Prop} (hA : ∀ b, w.heap.size ≤ b → A b) (people : (List route_Person)) (v_people : Value) (h_people : Sl A w v_people people) (held : (List route_Held)) (v_held : Value) (h_held : Sl A w v_held held) {r : ((List Int) × Int)} (hm : route_Room people held = some r) : Ret Tryd.prog 5 #[v_people, v_held] w fun v w' => ∃ s0, v = .tuple #[s0, .int .i64 r.2] ∧ Ownd 3 w w' s0 r.1 ∧ Kp w w' := by
  unfold route_Room at hm
  refine enter Tryd.func5 rfl Tryd.ntmps5 rfl ?_
  have hA0 := hA
  have hB := Nat.le_refl w.heap.size
  have hK : Tr w.heap.size A w A w := Tr.refl hA
  have hH : Hp w.heap.size A w [] := Hp.nil
  refine C_seq ?_
  refine C_region ?_
  refine V_y (Y_assign rfl) rfl rfl rfl ?_
  refine V_y (Y_assign rfl) rfl rfl rfl ?_
  refine V_to (fun _ _ => rfl) ?_
  refine C_seq ?_
  refine C_seq ?_
  refine C_region ?_
  refine V_y (Y_move rfl) rfl rfl rfl ?_
  refine V_y (Y_move rfl) rfl rfl rfl ?_
  obtain ⟨x5, hx5, hm⟩ := Option.bind_eq_some_iff.1 hm
  refine V_call Tryd.call10 rfl rfl rfl rfl (route_CheckHeld_c w hA people v_people h_people held v_held h_held hx5) ?_
  rintro _ w6 ⟨rfl, hk7⟩
  have ht8 := Kp.tr hk7 hA hB
  replace hH := Hp.kp hH hk7
  replace h_people := Sl.tr h_people ht8
  replace h_held := Sl.tr h_held ht8
  replace hK := Tr.trans hK ht8
  replace hB := Nat.le_trans hB ht8.ex.size
  replace hA := ht8.new
  refine V_y (Y_assign rfl) rfl rfl rfl ?_
  refine V_to (fun _ _ => rfl) ?_
  refine C_seq ?_
  refine C_region ?_
  refine V_y (Y_move rfl) rfl rfl rfl ?_
  refine V_y (Y_neq rfl rfl) rfl rfl rfl ?_
  refine V_to (fun _ _ => rfl) ?_
  refine C_cond rfl (fun hc9 => ?_) (fun hc9 => ?_)
  · rw [if_pos hc9] at hm
    refine C_seq ?_
    refine C_region ?_
    refine V_y (Y_move rfl) rfl rfl rfl ?_
    refine V_y (Y_assign rfl) rfl rfl rfl ?_
    refine V_y (Y_assign rfl) rfl rfl rfl ?_
    refine V_to (fun _ _ => rfl) ?_
    obtain rfl := Option.some.inj hm
    replace hH : Hp w.heap.size A w6 (obS (α := Int) 3 (.slice none 0 0) ([] : (List Int)) :: []) := Hp.addNil (α := Int) (e := 3) hH
    refine C_ret ?_
    try simp only [↓inBlock_ret, ↓then_ret]
    exact retQ rfl (Res.two Tryd.results5 rfl rfl) ⟨.slice none 0 0, rfl, (Hp.ownd hH (i := 0) rfl), hK.kp⟩
  · rw [if_neg (nt hc9)] at hm
    refine C_skip_to (fun _ _ => rfl) ?_
    refine C_seq ?_
    refine C_region ?_
    refine V_y (Y_move rfl) rfl rfl rfl ?_
    refine V_y (Y_move rfl) rfl rfl rfl ?_
    obtain ⟨x10, hx10, hm⟩ := Option.bind_eq_some_iff.1 hm
    refine V_call Tryd.call17 rfl rfl rfl rfl (route_weights_c w6 hA people v_people h_people held v_held h_held hx10) ?_
    rintro v11 w13 ⟨_, rfl, h12, hk14⟩
    obtain ⟨A15, ht16, hH17⟩ := Hp.addOwnd hH hB hA hk14 h12
    replace h_people := Sl.tr h_people ht16
    replace h_held := Sl.tr h_held ht16
    replace hK := Tr.trans hK ht16
    replace hB := Nat.le_trans hB ht16.ex.size
    replace hA := ht16.new
    replace hH : Hp w.heap.size A15 w13 (obS (α := Int) 3 v11 x10 :: []) := hH17
    refine V_y (Y_assign rfl) rfl rfl rfl ?_
    refine V_to (fun _ _ => rfl) ?_
    refine C_seq ?_
    refine C_seq ?_
    refine C_region ?_
    refine V_y (Y_move rfl) rfl rfl rfl ?_
    refine V_y (Y_lenSl h_people rfl Tryd.underlying22 rfl) rfl rfl rfl ?_
    refine V_y (Y_move rfl) rfl rfl rfl ?_
    refine V_to (fun _ _ => rfl) ?_
    have hn42 := Sl.le h_people
    obtain ⟨o18, ho18, hm⟩ := Option.bind_eq_some_iff.1 hm
    refine C_cutG (ι := ((List Int) × Value × (Nat → Prop))) (fun ⟨s19, v25, A27⟩ => [(7, v25)]) (fun ⟨s19, v25, A27⟩ => fun w' => o18 = .fin s19 ∧ Hp w.heap.size A27 w' (obS (α := Int) 3 v25 s19 :: []) ∧ Tr w.heap.size A15 w13 A27 w') ?_ ?_
    · refine C_block ?_
      refine C_range ho18 (fun k21 s29 a w' => ∃ i : (Value × (Nat → Prop)), Has ⟨38, [], none⟩ a ([(7, i.1), (19, v_people), (20, .int .i64 (people.length : Int)), (21, .int .i64 (k21 : Int))]) ∧ Hp w.heap.size i.2 w' (obS (α := Int) 3 i.1 s29 :: []) ∧ Tr w.heap.size A15 w13 i.2 w') (fun a ha => ⟨(v11, A15), ha.sub ⟨rfl, rfl, rfl, rfl, trivial⟩, ⟨hH, Tr.refl hA⟩⟩) ?_
      rintro K k21 s29 a w30 ⟨⟨v31, A33⟩, ha81, hH34, hr20⟩ hle38 K41 h40
      refine C_of ?_ ha81
      replace h_people := Sl.tr h_people hr20
      replace hK := Tr.trans hK hr20
      replace hB := Nat.le_trans hB hr20.ex.size
      replace hA := hr20.new
      replace hH : Hp w.heap.size A33 w30 (obS (α := Int) 3 v31 s29 :: []) := hH34
      refine C_seq (C_region (V_y (Y_lss rfl rfl) rfl rfl rfl (V_to (fun _ _ => rfl) ?_)))
      refine C_seq ?_
      refine C_cond rfl (fun hc43 => ?_) (fun hc43 => ?_)
      · have hlt39 := lt_of_dec hc43
        obtain ⟨x35, h36, h37⟩ := K41 hlt39
        refine C_skip_to (fun _ _ => rfl) ?_
        refine C_seq ?_
        refine C_block ?_
        refine C_seq ?_
        refine C_region ?_
        refine V_y (Y_move rfl) rfl rfl rfl ?_
        obtain ⟨x44, hx44, h36⟩ := Option.bind_eq_some_iff.1 h36
        refine V_indexAddr h_people hx44 Tryd.underlying22 Tryd.sizeOf46 rfl rfl rfl ?_
        intro b45 o46 h47
        obtain ⟨v48, h50, h49⟩ := El_route_Person h47
        refine V_y (Y_loadA h50 Tryd.isAgg46 Tryd.sizeOf46 rfl) rfl rfl rfl ?_
        refine V_alloc Tryd.zeroValue46 rfl ?_
        intro b51 w52 h53
        refine V_y (Y_assign rfl) rfl rfl rfl ?_
        have h58 : (v48).oneCell' = true := by obtain ⟨_, _, e, _⟩ := Sl.form h49; rw [e]; rfl
        refine V_storeNew h53 Tryd.sizeOf46 rfl rfl rfl rfl (by exact (List.forall_mem_cons.2 ⟨rfl, (List.forall_mem_cons.2 ⟨rfl, (List.forall_mem_cons.2 ⟨rfl, (List.forall_mem_cons.2 ⟨h58, (fun _ h => nomatch h)⟩)⟩)⟩)⟩)) ?_
        intro w54 h55
        have hk60 := h55.kp
        have h59 : El (α := route_Person) A33 w54 b51 0 x44 := h55.el hA ⟨[.int .i64 x44.no], _, rfl, rfl, ⟨[.int .i64 x44.capacity], _, rfl, rfl, ⟨[.int .i64 x44.calendar], _, rfl, rfl, ⟨_, rfl, h49⟩⟩⟩⟩
        have ht61 := Kp.tr hk60 hA hB
        replace hH := Hp.kp hH hk60
        replace h_people := Sl.tr h_people ht61
        replace h47 := El.tr h47 ht61
        replace h49 := Sl.tr h49 ht61
        replace hK := Tr.trans hK ht61
        replace hr20 := Tr.trans hr20 ht61
        replace hB := Nat.le_trans hB ht61.ex.size
        replace hA := ht61.new
        refine V_to (fun _ _ => rfl) ?_
        refine C_region_qt 10 Tryd_mixed (by kernel_rfl) ?_
        simp only [List.take, List.drop]
        refine VQ_y (fun w' hw' => Y_move rfl) rfl rfl rfl ?_
        refine VQ_y (fun w' hw' => Y_move rfl) rfl rfl rfl ?_
        have h62 := El_route_Person_1 h59
        refine VQ_y (fun w' hw' => Y_fieldAddr Tryd.underlying46 rfl Tryd.sizeOf3 (by decide) rfl) rfl rfl rfl ?_
        refine VQ_y (fun w' hw' => Y_load (El.int (El.kp h62 hw')) Tryd.isAgg3 rfl) rfl rfl rfl ?_
        refine VQ_y (fun w' hw' => Y_move rfl) rfl rfl rfl ?_
        refine VQ_y (fun w' hw' => Y_move rfl) rfl rfl rfl ?_
        obtain ⟨x63, hx63, h36⟩ := Option.bind_eq_some_iff.1 h36
        refine VQ_indexAddrH (α := Int) (e := 3) (v := v31) (l := s29) hH (i := 0) rfl hx63 Tryd.underlying24 Tryd.sizeOf3 rfl rfl rfl ?_
        intro b64 o65 h66 hl67
        refine VQ_y (fun w' hw' => Y_load (El.int (El.kp h66 hw')) Tryd.isAgg3 rfl) rfl rfl rfl ?_
        refine VQ_y (fun w' hw' => Y_subI rfl rfl) rfl rfl rfl ?_
        refine VQ_indexAddrH (α := Int) (e := 3) (v := v31) (l := s29) hH (i := 0) rfl hx63 Tryd.underlying24 Tryd.sizeOf3 rfl rfl rfl ?_
        intro b68 o69 h70 hl71
        refine VQ_tail (fun w72 hk73 => ?_)
        try simp only [List.take, List.drop]
        have ht74 := Kp.tr hk73 hA hB
        replace hH := Hp.kp hH hk73
        replace h_people := Sl.tr h_people ht74
        replace h59 := El.tr h59 ht74
        replace h62 := El.tr h62 ht74
        replace h66 := El.kp h66 hk73
        replace h70 := El.kp h70 hk73
        replace hK := Tr.trans hK ht74
        replace hr20 := Tr.trans hr20 ht74
        replace hB := Nat.le_trans hB ht74.ex.size
        replace hA := ht74.new
        obtain ⟨x75, hx75, h36⟩ := Option.bind_eq_some_iff.1 h36
        refine V_storeH (α := Int) (e := 3) (v := v31) (l := s29) hH (i := 0) rfl hl71 hx75 rfl Tryd.sizeOf3 rfl hB hA rfl rfl ?_
        intro w76 hH77 ht78
        replace h_people := Sl.tr h_people ht78
        replace h59 := El.tr h59 ht78
        replace h62 := El.tr h62 ht78
        replace hK := Tr.trans hK ht78
        replace hr20 := Tr.trans hr20 ht78
        replace hB := Nat.le_trans hB ht78.ex.size
        replace hA := ht78.new
        replace hH : Hp w.heap.size A33 w76 (obS (α := Int) 3 v31 x75 :: []) := hH77
        refine V_to (fun _ _ => rfl) ?_
        refine C_region ?_
        refine V_y (Y_addI rfl rfl) rfl rfl rfl ?_
        refine V_y (Y_move rfl) rfl rfl rfl ?_
        obtain rfl := Option.some.inj h36
        refine V_end (fun a ha79 => ?_)
        exact ⟨x75, hlt39, h37, ⟨(v31, A33), ha79.sub ⟨rfl, rfl, rfl, (congrArg (fun z => some (Value.int .i64 z)) (w64_succ hlt39 hn42)), trivial⟩, ⟨hH, hr20⟩⟩⟩
      · refine C_exit (fun a ha80 => ?_)
        exact ⟨(s29, v31, A33), ha80.sub ⟨rfl, trivial⟩, ⟨(h40 (eq_of_dec hle38 hc43)).symm, hH, hr20⟩⟩
    rintro ⟨s19, v25, A27⟩ w22 ⟨rfl, hH28, hk23⟩ a ha24
    rw [Lp.andThen_fin] at hm
    replace hK := Tr.trans hK hk23
    replace hB := Nat.le_trans hB hk23.ex.size
    replace hA := hk23.new
    replace hH : Hp w.heap.size A27 w22 (obS (α := Int) 3 v25 s19 :: []) := hH28
    refine C_at (n := ⟨38, [], none⟩) (fun _ _ => rfl) ?_ ha24
    refine C_seq ?_
    refine C_region ?_
    refine V_y (Y_move rfl) rfl rfl rfl ?_
    refine V_y (Y_assign rfl) rfl rfl rfl ?_
    refine V_y (Y_assign rfl) rfl rfl rfl ?_
    refine V_to (fun _ _ => rfl) ?_
    obtain rfl := Option.some.inj hm
    refine C_ret ?_
    try simp only [↓inBlock_ret, ↓then_ret]
    exact retQ rfl (Res.two Tryd.results5 rfl rfl) ⟨v25, rfl, (Hp.ownd hH (i := 0) rfl), hK.kp⟩

def Tryd_strings_Trim_lay_ren : Go.Shelf.Ren := ⟨fun | 119 => 71 | 120 => 69 | 137 => 70 | 151 => 65 | 152 => 68 | 160 => 55 | 197 => 64 | 217 => 74 | 224 => 72 | 225 => 73 | 227 => 58 | 228 => 63 | 231 => 56 | 232 => 57 | 233 => 59 | 234 => 60 | 235 => 61 | 236 => 62 | 260 => 67 | 266 => 75 | 271 => 66 | n => n, fun | 0 => 0 | 1 => 1 | 2 => 2 | 3 => 3 | 4 => 4 | 5 => 5 | 6 => 6 | 7 => 7 | 8 => 8 | 9 => 9 | 10 => 10 | 11 => 11 | 12 => 12 | 13 => 13 | 14 => 14 | 15 => 15 | 16 => 16 | 17 => 17 | 18 => 18 | 19 => 19 | 20 => 20 | 21 => 21 | 23 => 79 | 27 => 100 | 28 => 24 | 34 => 30 | 36 => 49 | 40 => 98 | 41 => 87 | 46 => 93 | 51 => 108 | 55 => 97 | 63 => 90 | 64 => 91 | 80 => 101 | 81 => 107 | 104 => 72 | 105 => 88 | 106 => 89 | 111 => 57 | 114 => 99 | 115 => 81 | 116 => 82 | 117 => 83 | 118 => 84 | 119 => 92 | 122 => 80 | 123 => 85 | 124 => 86 | 127 => 112 | 137 => 94 | 138 => 95 | 139 => 96 | 164 => 117 | 229 => 47 | 238 => 102 | 239 => 103 | 240 => 104 | 241 => 105 | 242 => 106 | 243 => 109 | 244 => 110 | 245 => 111 | 246 => 113 | 247 => 114 | 248 => 115 | 249 => 116 | n => n, fun | 1 => 2 | 3 => 0 | 4 => 1 | n => n⟩
theorem Tryd_strings_Trim_lay : Go.Proofs.Lays.n160 Tryd.prog Tryd_strings_Trim_lay_ren := {
  mixed := by kernel_rfl,
  f119 := Tryd.func71.trans (congrArg some (by kernel_rfl)),
  f120 := Tryd.func69.trans (congrArg some (by kernel_rfl)),
  f137 := Tryd.func70.trans (congrArg some (by kernel_rfl)),
  f151 := Tryd.func65.trans (congrArg some (by kernel_rfl)),
  f152 := Tryd.func68.trans (congrArg some (by kernel_rfl)),
  f160 := Tryd.func55.trans (congrArg some (by kernel_rfl)),
  f197 := Tryd.func64.trans (congrArg some (by kernel_rfl)),
  f217 := Tryd.func74.trans (congrArg some (by kernel_rfl)),
  f224 := Tryd.func72.trans (congrArg some (by kernel_rfl)),
  f225 := Tryd.func73.trans (congrArg some (by kernel_rfl)),
  f227 := Tryd.func58.trans (congrArg some (by kernel_rfl)),
  f228 := Tryd.func63.trans (congrArg some (by kernel_rfl)),
  f231 := Tryd.func56.trans (congrArg some (by kernel_rfl)),
  f232 := Tryd.func57.trans (congrArg some (by kernel_rfl)),
  f233 := Tryd.func59.trans (congrArg some (by kernel_rfl)),
  f234 := Tryd.func60.trans (congrArg some (by kernel_rfl)),
  f235 := Tryd.func61.trans (congrArg some (by kernel_rfl)),
  f236 := Tryd.func62.trans (congrArg some (by kernel_rfl)),
  f260 := Tryd.func67.trans (congrArg some (by kernel_rfl)),
  f266 := Tryd.func75.trans (congrArg some (by kernel_rfl)),
  f271 := Tryd.func66.trans (congrArg some (by kernel_rfl)),
  t0 := Tryd.underlying0,
  a0 := Tryd.isAgg0,
  z0 := Tryd.sizeOf0,
  v0 := Tryd.zeroValue0,
  t3 := Tryd.underlying3,
  a3 := Tryd.isAgg3,
  z3 := Tryd.sizeOf3,
  v3 := Tryd.zeroValue3,
  t4 := Tryd.underlying4,
  a4 := Tryd.isAgg4,
  z4 := Tryd.sizeOf4,
  v4 := Tryd.zeroValue4,
  t5 := Tryd.underlying5,
  a5 := Tryd.isAgg5,
  z5 := Tryd.sizeOf5,
  v5 := Tryd.zeroValue5,
  t9 := Tryd.underlying9,
  a9 := Tryd.isAgg9,
  z9 := Tryd.sizeOf9,
  v9 := Tryd.zeroValue9,
  t21 := Tryd.underlying21,
  a21 := Tryd.isAgg21,
  z21 := Tryd.sizeOf21,
  v21 := Tryd.zeroValue21,
  t46 := Tryd.underlying93,
  a46 := Tryd.isAgg93,
  z46 := Tryd.sizeOf93,
  v46 := Tryd.zeroValue93,
  t105 := Tryd.underlying88,
  a105 := Tryd.isAgg88,
  z105 := Tryd.sizeOf88,
  v105 := Tryd.zeroValue88,
  t116 := Tryd.underlying82,
  a116 := Tryd.isAgg82,
  z116 := Tryd.sizeOf82,
  t117 := Tryd.underlying83,
  a117 := Tryd.isAgg83,
  z117 := Tryd.sizeOf83,
  v117 := Tryd.zeroValue83,
  t119 := Tryd.underlying92,
  a119 := Tryd.isAgg92,
  z119 := Tryd.sizeOf92,
  t124 := Tryd.underlying86,
  a124 := Tryd.isAgg86,
  z124 := Tryd.sizeOf86,
  v124 := Tryd.zeroValue86,
  t138 := Tryd.underlying95,
  a138 := Tryd.isAgg95,
  z138 := Tryd.sizeOf95,
  v138 := Tryd.zeroValue95,
  t139 := Tryd.underlying96,
  a139 := Tryd.isAgg96,
  z139 := Tryd.sizeOf96,
  v139 := Tryd.zeroValue96,
  g3 := by kernel_rfl,
  g4 := by kernel_rfl }
theorem strings_Trim_c (w : World) {A : Nat → Prop} (hA : ∀ b, w.heap.size ≤ b → A b) (s : ByteArray) (cutset : ByteArray) {r : ByteArray} (hm : strings_Trim s cutset = some r) : Ret Tryd.prog 55 #[.string s, .string cutset] w fun v w' => v = .string r ∧ Kp w w' := by
  unfold strings_Trim at hm
  split at hm
  case isFalse => cases hm
  rename_i h
  obtain rfl := Option.some.inj hm
  refine Calls.mono (Go.Proofs.Any.strings_Trim_laid Tryd_strings_Trim_lay (by kernel_rfl) s cutset w h.1 h.2.1 (Go.Proofs.ascii_of_all h.2.2)) ?_
  rintro _ w' ⟨rfl, hk⟩
  exact ⟨_, rfl, rfl, hk⟩

set_option maxRecDepth 4000 in
set_option maxHeartbeats 4000000 in
theorem portref2_IsName_c (w : World) {A : Nat → Prop} (hA : ∀ b, w.heap.size ≤ b → A b) (s : ByteArray) {r : Bool} (hm : portref2_IsName s = some r) : Ret Tryd.prog 48 #[.string s] w fun v w' => v = .bool r ∧ Kp w w' := by
  unfold portref2_IsName at hm
  refine enter Tryd.func48 rfl Tryd.ntmps48 rfl ?_
  have hA0 := hA
  have hB := Nat.le_refl w.heap.size
  have hK : Tr w.heap.size A w A w := Tr.refl hA
  have hH : Hp w.heap.size A w [] := Hp.nil
  refine C_seq ?_
  refine C_region ?_
  refine V_y (Y_assign rfl) rfl rfl rfl ?_
  refine V_to (fun _ _ => rfl) ?_
  refine C_seq ?_
  obtain ⟨s2, ho1, hm⟩ := Option.bind_eq_some_iff.1 hm
  refine C_cutG (ι := (Nat → Prop)) (fun (A7 : (Nat → Prop)) => [(2, .bool s2)]) (fun (A7 : (Nat → Prop)) => fun w' => Hp w.heap.size A7 w' ([]) ∧ Tr w.heap.size A w A7 w') ?_ ?_
  · have hr3 : Tr w.heap.size A w A w := Tr.refl hA
    refine C_region ?_
    refine V_y (Y_move rfl) rfl rfl rfl ?_
    refine V_y (Y_lenStr rfl Tryd.underlying9 rfl) rfl rfl rfl ?_
    refine V_y (Y_geq rfl rfl) rfl rfl rfl ?_
    refine V_y (Y_move rfl) rfl rfl rfl ?_
    rcases Bool.eq_false_or_eq_true (decide ((1 : Int) ≤ (s.size : Int))) with hc9 | hc9
    · rw [if_pos hc9] at ho1
      refine V_ge rfl rfl rfl hc9 ?_
      refine V_y (Y_move rfl) rfl rfl rfl ?_
      refine V_ge rfl rfl rfl hc9 ?_
      refine V_y (Y_lenStr rfl Tryd.underlying9 rfl) rfl rfl rfl ?_
      refine V_ge rfl rfl rfl hc9 ?_
      refine V_y (Y_leq rfl rfl) rfl rfl rfl ?_
      refine V_y (Y_pick_te rfl hc9 rfl) rfl rfl rfl ?_
      refine V_y (Y_move rfl) rfl rfl rfl ?_
      rcases Bool.eq_false_or_eq_true (decide ((s.size : Int) ≤ 20)) with hc10 | hc10
      · rw [if_pos hc10] at ho1
        refine V_ge rfl rfl rfl hc10 ?_
        refine V_y (Y_move rfl) rfl rfl rfl ?_
        refine V_ge rfl rfl rfl hc10 ?_
        obtain ⟨x11, hx11, ho1⟩ := Option.bind_eq_some_iff.1 ho1
        refine V_call Tryd.call55 rfl rfl rfl rfl (strings_Trim_c w hA s (⟨#[97, 98, 99, 100, 101, 102, 103, 104, 105, 106, 107, 108, 109, 110, 111, 112, 113, 114, 115, 116, 117, 118, 119, 120, 121, 122, 48, 49, 50, 51, 52, 53, 54, 55, 56, 57, 95]⟩ : ByteArray) hx11) ?_
        rintro _ w12 ⟨rfl, hk13⟩
        have ht14 := Kp.tr hk13 hA hB
        replace hH := Hp.kp hH hk13
        replace hK := Tr.trans hK ht14
        replace hr3 := Tr.trans hr3 ht14
        replace hB := Nat.le_trans hB ht14.ex.size
        replace hA := ht14.new
        refine V_ge rfl rfl rfl hc10 ?_
        refine V_y (Y_seql rfl rfl) rfl rfl rfl ?_
        refine V_y (Y_pick_te rfl hc10 rfl) rfl rfl rfl ?_
        refine V_y (Y_assign rfl) rfl rfl rfl ?_
        obtain rfl := Option.some.inj ho1
        refine V_end (fun a ha15 => ?_)
        exact ⟨A, ha15.sub ⟨rfl, trivial⟩, ⟨hH, hr3⟩⟩
      · rw [if_neg (nt hc10)] at ho1
        refine V_gn rfl rfl rfl hc10 rfl rfl rfl ?_
        refine V_gn rfl rfl rfl hc10 rfl rfl rfl ?_
        refine V_gn rfl rfl rfl hc10 rfl rfl rfl ?_
        refine V_y (Y_pick_fe rfl hc10 rfl) rfl rfl rfl ?_
        refine V_y (Y_assign rfl) rfl rfl rfl ?_
        obtain rfl := Option.some.inj ho1
        refine V_end (fun a ha16 => ?_)
        exact ⟨A, ha16.sub ⟨rfl, trivial⟩, ⟨hH, hr3⟩⟩
    · rw [if_neg (nt hc9)] at ho1
      refine V_gn rfl rfl rfl hc9 rfl rfl rfl ?_
      refine V_gn rfl rfl rfl hc9 rfl rfl rfl ?_
      refine V_gn rfl rfl rfl hc9 rfl rfl rfl ?_
      refine V_y (Y_pick_fe rfl hc9 rfl) rfl rfl rfl ?_
      refine V_y (Y_move rfl) rfl rfl rfl ?_
      rcases Bool.eq_false_or_eq_true (false) with hc17 | hc17
      · rw [if_pos hc17] at ho1
        refine V_ge rfl rfl rfl hc17 ?_
        refine V_y (Y_move rfl) rfl rfl rfl ?_
        refine V_ge rfl rfl rfl hc17 ?_
        obtain ⟨x18, hx18, ho1⟩ := Option.bind_eq_some_iff.1 ho1
        refine V_call Tryd.call55 rfl rfl rfl rfl (strings_Trim_c w hA s (⟨#[97, 98, 99, 100, 101, 102, 103, 104, 105, 106, 107, 108, 109, 110, 111, 112, 113, 114, 115, 116, 117, 118, 119, 120, 121, 122, 48, 49, 50, 51, 52, 53, 54, 55, 56, 57, 95]⟩ : ByteArray) hx18) ?_
        rintro _ w19 ⟨rfl, hk20⟩
        have ht21 := Kp.tr hk20 hA hB
        replace hH := Hp.kp hH hk20
        replace hK := Tr.trans hK ht21
        replace hr3 := Tr.trans hr3 ht21
        replace hB := Nat.le_trans hB ht21.ex.size
        replace hA := ht21.new
        refine V_ge rfl rfl rfl hc17 ?_
        refine V_y (Y_seql rfl rfl) rfl rfl rfl ?_
        refine V_y (Y_pick_te rfl hc17 rfl) rfl rfl rfl ?_
        refine V_y (Y_assign rfl) rfl rfl rfl ?_
        obtain rfl := Option.some.inj ho1
        refine V_end (fun a ha22 => ?_)
        exact ⟨A, ha22.sub ⟨rfl, trivial⟩, ⟨hH, hr3⟩⟩
      · rw [if_neg (nt hc17)] at ho1
        refine V_gn rfl rfl rfl hc17 rfl rfl rfl ?_
        refine V_gn rfl rfl rfl hc17 rfl rfl rfl ?_
        refine V_gn rfl rfl rfl hc17 rfl rfl rfl ?_
        refine V_y (Y_pick_fe rfl hc17 rfl) rfl rfl rfl ?_
        refine V_y (Y_assign rfl) rfl rfl rfl ?_
        obtain rfl := Option.some.inj ho1
        refine V_end (fun a ha23 => ?_)
        exact ⟨A, ha23.sub ⟨rfl, trivial⟩, ⟨hH, hr3⟩⟩
  rintro A7 w4 ⟨hH8, hk5⟩ a ha6
  replace hK := Tr.trans hK hk5
  replace hB := Nat.le_trans hB hk5.ex.size
  replace hA := hk5.new
  replace hH : Hp w.heap.size A7 w4 ([]) := hH8
  refine C_at (n := ⟨16, [], none⟩) (fun _ _ => rfl) ?_ ha6
  obtain rfl := Option.some.inj hm
  refine C_ret ?_
  try simp only [↓inBlock_ret, ↓then_ret]
  exact retQ rfl (Res.one Tryd.results48 rfl) ⟨rfl, hK.kp⟩

set_option maxRecDepth 4000 in
set_option maxHeartbeats 4000000 in
theorem portref2_skillsFault_c (w : World) {A : Nat → Prop} (hA : ∀ b, w.heap.size ≤ b → A b) (l : (List route_Skill)) (v_l : Value) (h_l : Sl A w v_l l) {r : Int} (hm : portref2_skillsFault l = some r) : Ret Tryd.prog 36 #[v_l] w fun v w' => v = .int .i64 r ∧ Kp w w' := by
  unfold portref2_skillsFault at hm
  refine enter Tryd.func36 rfl Tryd.ntmps36 rfl ?_
  have hA0 := hA
  have hB := Nat.le_refl w.heap.size
  have hK : Tr w.heap.size A w A w := Tr.refl hA
  have hH : Hp w.heap.size A w [] := Hp.nil
  refine C_seq ?_
  refine C_region ?_
  refine V_y (Y_assign rfl) rfl rfl rfl ?_
  refine V_to (fun _ _ => rfl) ?_
  refine C_seq ?_
  refine C_seq ?_
  refine C_region ?_
  refine V_y (Y_move rfl) rfl rfl rfl ?_
  refine V_y (Y_lenSl h_l rfl Tryd.underlying33 rfl) rfl rfl rfl ?_
  refine V_y (Y_gtr rfl rfl) rfl rfl rfl ?_
  refine V_to (fun _ _ => rfl) ?_
  refine C_cond rfl (fun hc3 => ?_) (fun hc3 => ?_)
  · rw [if_pos hc3] at hm
    refine C_seq ?_
    refine C_region ?_
    refine V_y (Y_assign rfl) rfl rfl rfl ?_
    refine V_to (fun _ _ => rfl) ?_
    obtain rfl := Option.some.inj hm
    refine C_ret ?_
    try simp only [↓inBlock_ret, ↓then_ret]
    exact retQ rfl (Res.one Tryd.results36 rfl) ⟨rfl, hK.kp⟩
  · rw [if_neg (nt hc3)] at hm
    refine C_skip_to (fun _ _ => rfl) ?_
    refine C_seq ?_
    refine C_seq ?_
    refine C_region ?_
    refine V_y (Y_move rfl) rfl rfl rfl ?_
    refine V_y (Y_lenSl h_l rfl Tryd.underlying33 rfl) rfl rfl rfl ?_
    refine V_y (Y_move rfl) rfl rfl rfl ?_
    refine V_to (fun _ _ => rfl) ?_
    have hn25 := Sl.le h_l
    obtain ⟨o4, ho4, hm⟩ := Option.bind_eq_some_iff.1 hm
    refine C_cutG (ι := (Unit × (Nat → Prop))) (fun ⟨s5, A12⟩ => []) (fun ⟨s5, A12⟩ => fun w' => o4 = .fin s5 ∧ Hp w.heap.size A12 w' ([]) ∧ Tr w.heap.size A w A12 w') ?_ ?_
    · refine C_block ?_
      refine C_range ho4 (fun k7 _ a w' => ∃ i : (Nat → Prop), Has ⟨44, [], none⟩ a ([(0, v_l), (8, v_l), (9, .int .i64 (l.length : Int)), (10, .int .i64 (k7 : Int))]) ∧ Hp w.heap.size i w' ([]) ∧ Tr w.heap.size A w i w') (fun a ha => ⟨A, ha.sub ⟨rfl, rfl, rfl, rfl, trivial⟩, ⟨hH, Tr.refl hA⟩⟩) ?_
      rintro K k7 _ a w15 ⟨A16, ha65, hH17, hr6⟩ hle21 K24 h23
      refine C_of ?_ ha65
      replace h_l := Sl.tr h_l hr6
      replace hK := Tr.trans hK hr6
      replace hB := Nat.le_trans hB hr6.ex.size
      replace hA := hr6.new
      replace hH : Hp w.heap.size A16 w15 ([]) := hH17
      refine C_seq (C_region (V_y (Y_lss rfl rfl) rfl rfl rfl (V_to (fun _ _ => rfl) ?_)))
      refine C_seq ?_
      refine C_cond rfl (fun hc26 => ?_) (fun hc26 => ?_)
      · have hlt22 := lt_of_dec hc26
        obtain ⟨x18, h19, h20⟩ := K24 hlt22
        refine C_skip_to (fun _ _ => rfl) ?_
        refine C_seq ?_
        refine C_block ?_
        refine C_seq ?_
        refine C_region ?_
        refine V_y (Y_move rfl) rfl rfl rfl ?_
        obtain ⟨x27, hx27, h19⟩ := Option.bind_eq_some_iff.1 h19
        refine V_indexAddr h_l hx27 Tryd.underlying33 Tryd.sizeOf42 rfl rfl rfl ?_
        intro b28 o29 h30
        obtain ⟨h31, _⟩ := El_route_Skill h30
        refine V_y (Y_loadA h31 Tryd.isAgg42 Tryd.sizeOf42 rfl) rfl rfl rfl ?_
        refine V_alloc Tryd.zeroValue42 rfl ?_
        intro b32 w33 h34
        refine V_y (Y_assign rfl) rfl rfl rfl ?_
        refine V_storeNew h34 Tryd.sizeOf42 rfl rfl rfl rfl (by exact (List.forall_mem_cons.2 ⟨rfl, (List.forall_mem_cons.2 ⟨rfl, (fun _ h => nomatch h)⟩)⟩)) ?_
        intro w35 h36
        have hk38 := h36.kp
        have h37 : El (α := route_Skill) A16 w35 b32 0 x27 := h36.el hA ⟨[.string x27.name], _, rfl, rfl, rfl⟩
        have ht39 := Kp.tr hk38 hA hB
        replace hH := Hp.kp hH hk38
        replace h_l := Sl.tr h_l ht39
        replace h30 := El.tr h30 ht39
        replace hK := Tr.trans hK ht39
        replace hr6 := Tr.trans hr6 ht39
        replace hB := Nat.le_trans hB ht39.ex.size
        replace hA := ht39.new
        refine V_to (fun _ _ => rfl) ?_
        refine C_block ?_
        refine C_seq ?_
        refine C_region ?_
        have h40 := El_route_Skill_0 h37
        refine V_y (Y_fieldAddr Tryd.underlying42 rfl Tryd.sizeOf9 (by decide) rfl) rfl rfl rfl ?_
        refine V_y (Y_load (El.str h40) Tryd.isAgg9 rfl) rfl rfl rfl ?_
        obtain ⟨x41, hx41, h19⟩ := Option.bind_eq_some_iff.1 h19
        refine V_call Tryd.call48 rfl rfl rfl rfl (portref2_IsName_c w35 hA x27.name hx41) ?_
        rintro _ w42 ⟨rfl, hk43⟩
        have ht44 := Kp.tr hk43 hA hB
        replace hH := Hp.kp hH hk43
        replace h_l := Sl.tr h_l ht44
        replace h37 := El.tr h37 ht44
        replace h40 := El.tr h40 ht44
        replace hK := Tr.trans hK ht44
        replace hr6 := Tr.trans hr6 ht44
        replace hB := Nat.le_trans hB ht44.ex.size
        replace hA := ht44.new
        refine V_y (Y_not rfl) rfl rfl rfl ?_
        refine V_y (Y_assign rfl) rfl rfl rfl ?_
        refine V_to (fun _ _ => rfl) ?_
        refine C_cond rfl (fun hc45 => ?_) (fun hc45 => ?_)
        · rw [if_pos hc45] at h19
          refine C_seq ?_
          refine C_region ?_
          refine V_y (Y_assign rfl) rfl rfl rfl ?_
          refine V_to (fun _ _ => rfl) ?_
          obtain rfl := Option.some.inj h19
          obtain rfl := (h20 : Lp.rt _ = _)
          rw [Lp.andThen_rt] at hm
          obtain rfl := Option.some.inj hm
          refine C_ret ?_
          try simp only [↓inBlock_ret, ↓then_ret]
          exact retQ rfl (Res.one Tryd.results36 rfl) ⟨rfl, hK.kp⟩
        · rw [if_neg (nt hc45)] at h19
          refine C_seq ?_
          refine C_region_q Tryd_mixed (by kernel_rfl) ?_
          refine VQ_y (fun w' hw' => Y_move rfl) rfl rfl rfl ?_
          refine VQ_y (fun w' hw' => Y_gtr rfl rfl) rfl rfl rfl ?_
          refine VQ_y (fun w' hw' => Y_move rfl) rfl rfl rfl ?_
          obtain ⟨s47, hs47, h19⟩ := Option.bind_eq_some_iff.1 h19
          refine VQ_cut 10 (fun _ : Unit => [(0, v_l), (4, .pointer (some ⟨b32, 0, none⟩)), (8, v_l), (9, .int .i64 (l.length : Int)), (10, .int .i64 (k7 : Int)), (33, .bool s47)]) (fun _ => True) ?_ ?_
          · simp only [List.take, List.drop]
            rcases Bool.eq_false_or_eq_true (decide ((0 : Int) < (k7 : Int))) with hc46 | hc46
            · rw [if_pos hc46] at hs47
              refine VQ_ge rfl rfl rfl hc46 ?_
              have h48 := El_route_Skill_0 h37
              refine VQ_y (fun w' hw' => Y_fieldAddr Tryd.underlying42 rfl Tryd.sizeOf9 (by decide) rfl) rfl rfl rfl ?_
              refine VQ_ge rfl rfl rfl hc46 ?_
              refine VQ_y (fun w' hw' => Y_load (El.str (El.kp h48 hw')) Tryd.isAgg9 rfl) rfl rfl rfl ?_
              refine VQ_ge rfl rfl rfl hc46 ?_
              refine VQ_y (fun w' hw' => Y_move rfl) rfl rfl rfl ?_
              refine VQ_ge rfl rfl rfl hc46 ?_
              refine VQ_y (fun w' hw' => Y_move rfl) rfl rfl rfl ?_
              refine VQ_ge rfl rfl rfl hc46 ?_
              refine VQ_y (fun w' hw' => Y_subI rfl rfl) rfl rfl rfl ?_
              refine VQ_ge rfl rfl rfl hc46 ?_
              obtain ⟨x49, hx49, hs47⟩ := Option.bind_eq_some_iff.1 hs47
              refine VQ_indexAddr h_l hx49 Tryd.underlying33 Tryd.sizeOf42 rfl rfl rfl ?_
              intro b50 o51 h52
              refine VQ_ge rfl rfl rfl hc46 ?_
              have h53 := El_route_Skill_0 h52
              refine VQ_y (fun w' hw' => Y_fieldAddr Tryd.underlying42 rfl Tryd.sizeOf9 (by decide) rfl) rfl rfl rfl ?_
              refine VQ_ge rfl rfl rfl hc46 ?_
              refine VQ_y (fun w' hw' => Y_load (El.str (El.kp h53 hw')) Tryd.isAgg9 rfl) rfl rfl rfl ?_
              refine VQ_ge rfl rfl rfl hc46 ?_
              refine VQ_y (fun w' hw' => Y_sleq rfl rfl) rfl rfl rfl ?_
              refine VQ_y (fun _ _ => Y_pick_te rfl hc46 rfl) rfl rfl rfl ?_
              obtain rfl := Option.some.inj hs47
              exact VQ_end fun a ha => ⟨(), ha.sub ⟨rfl, rfl, rfl, rfl, rfl, rfl, trivial⟩, trivial⟩
            · rw [if_neg (nt hc46)] at hs47
              refine VQ_gn rfl rfl rfl hc46 rfl rfl rfl ?_
              refine VQ_gn rfl rfl rfl hc46 rfl rfl rfl ?_
              refine VQ_gn rfl rfl rfl hc46 rfl rfl rfl ?_
              refine VQ_gn rfl rfl rfl hc46 rfl rfl rfl ?_
              refine VQ_gn rfl rfl rfl hc46 rfl rfl rfl ?_
              refine VQ_gn rfl rfl rfl hc46 rfl rfl rfl ?_
              refine VQ_gn rfl rfl rfl hc46 rfl rfl rfl ?_
              refine VQ_gn rfl rfl rfl hc46 rfl rfl rfl ?_
              refine VQ_gn rfl rfl rfl hc46 rfl rfl rfl ?_
              refine VQ_y (fun _ _ => Y_pick_fe rfl hc46 rfl) rfl rfl rfl ?_
              obtain rfl := Option.some.inj hs47
              exact VQ_end fun a ha => ⟨(), ha.sub ⟨rfl, rfl, rfl, rfl, rfl, rfl, trivial⟩, trivial⟩
          simp only [List.take, List.drop]
          rintro _ _
          refine VQ_y (fun w' hw' => Y_assign rfl) rfl rfl rfl ?_
          refine VQ_to (fun _ _ => rfl) (fun w54 hk55 => ?_)
          have ht56 := Kp.tr hk55 hA hB
          replace hH := Hp.kp hH hk55
          replace h_l := Sl.tr h_l ht56
          replace h37 := El.tr h37 ht56
          replace hK := Tr.trans hK ht56
          replace hr6 := Tr.trans hr6 ht56
          replace hB := Nat.le_trans hB ht56.ex.size
          replace hA := ht56.new
          refine C_cond rfl (fun hc57 => ?_) (fun hc57 => ?_)
          · rw [if_pos hc57] at h19
            refine C_seq ?_
            refine C_region ?_
            refine V_y (Y_assign rfl) rfl rfl rfl ?_
            refine V_to (fun _ _ => rfl) ?_
            obtain rfl := Option.some.inj h19
            obtain rfl := (h20 : Lp.rt _ = _)
            rw [Lp.andThen_rt] at hm
            obtain rfl := Option.some.inj hm
            refine C_ret ?_
            try simp only [↓inBlock_ret, ↓then_ret]
            exact retQ rfl (Res.one Tryd.results36 rfl) ⟨rfl, hK.kp⟩
          · rw [if_neg (nt hc57)] at h19
            refine C_seq ?_
            refine C_region ?_
            have h58 := El_route_Skill_1 h37
            refine V_y (Y_fieldAddr Tryd.underlying42 rfl Tryd.sizeOf3 (by decide) rfl) rfl rfl rfl ?_
            refine V_y (Y_load (El.int h58) Tryd.isAgg3 rfl) rfl rfl rfl ?_
            refine V_y (Y_lss rfl rfl) rfl rfl rfl ?_
            refine V_y (Y_move rfl) rfl rfl rfl ?_
            refine V_cut 4 (fun _ : Unit => [(0, v_l), (8, v_l), (9, .int .i64 (l.length : Int)), (10, .int .i64 (k7 : Int)), (42, .bool ((decide (x27.rank < 1)) || (decide ((9 : Int) < x27.rank))))]) (fun _ w' => w54 = w') ?_ ?_
            · simp only [List.take, List.drop]
              rcases Bool.eq_false_or_eq_true (decide (x27.rank < 1)) with hc59 | hc59
              · refine V_gn rfl rfl rfl hc59 rfl rfl rfl ?_
                refine V_gn rfl rfl rfl hc59 rfl rfl rfl ?_
                refine V_gn rfl rfl rfl hc59 rfl rfl rfl ?_
                refine V_y (Y_pick_te rfl hc59 rfl) rfl rfl rfl ?_
                exact V_end fun a ha => ⟨(), ha.sub ⟨rfl, rfl, rfl, rfl, (by rw [hc59]; rfl), trivial⟩, rfl⟩
              · refine V_ge rfl rfl rfl hc59 ?_
                have h61 := El_route_Skill_1 h37
                refine V_y (Y_fieldAddr Tryd.underlying42 rfl Tryd.sizeOf3 (by decide) rfl) rfl rfl rfl ?_
                refine V_ge rfl rfl rfl hc59 ?_
                refine V_y (Y_load (El.int h61) Tryd.isAgg3 rfl) rfl rfl rfl ?_
                refine V_ge rfl rfl rfl hc59 ?_
                refine V_y (Y_gtr rfl rfl) rfl rfl rfl ?_
                refine V_y (Y_pick_fe rfl hc59 rfl) rfl rfl rfl ?_
                exact V_end fun a ha => ⟨(), ha.sub ⟨rfl, rfl, rfl, rfl, (by rw [hc59]; rfl), trivial⟩, rfl⟩
            simp only [List.take, List.drop]
            rintro _ _ rfl
            refine V_y (Y_assign rfl) rfl rfl rfl ?_
            refine V_to (fun _ _ => rfl) ?_
            refine C_cond rfl (fun hc62 => ?_) (fun hc62 => ?_)
            · rw [if_pos hc62] at h19
              refine C_seq ?_
              refine C_region ?_
              refine V_y (Y_assign rfl) rfl rfl rfl ?_
              refine V_to (fun _ _ => rfl) ?_
              obtain rfl := Option.some.inj h19
              obtain rfl := (h20 : Lp.rt _ = _)
              rw [Lp.andThen_rt] at hm
              obtain rfl := Option.some.inj hm
              refine C_ret ?_
              try simp only [↓inBlock_ret, ↓then_ret]
              exact retQ rfl (Res.one Tryd.results36 rfl) ⟨rfl, hK.kp⟩
            · rw [if_neg (nt hc62)] at h19
              refine C_skip_to (fun _ _ => rfl) ?_
              refine C_region ?_
              refine V_y (Y_addI rfl rfl) rfl rfl rfl ?_
              refine V_y (Y_move rfl) rfl rfl rfl ?_
              obtain rfl := Option.some.inj h19
              refine V_end (fun a ha63 => ?_)
              exact ⟨(), hlt22, h20, ⟨A16, ha63.sub ⟨rfl, rfl, rfl, (congrArg (fun z => some (Value.int .i64 z)) (w64_succ hlt22 hn25)), trivial⟩, ⟨hH, hr6⟩⟩⟩
      · refine C_exit (fun a ha64 => ?_)
        exact ⟨((), A16), ha64.sub trivial, ⟨(h23 (eq_of_dec hle21 hc26)).symm, hH, hr6⟩⟩
    rintro ⟨s5, A12⟩ w9 ⟨rfl, hH13, hk10⟩ a ha11
    rw [Lp.andThen_fin] at hm
    replace hK := Tr.trans hK hk10
    replace hB := Nat.le_trans hB hk10.ex.size
    replace hA := hk10.new
    replace hH : Hp w.heap.size A12 w9 ([]) := hH13
    refine C_at (n := ⟨44, [], none⟩) (fun _ _ => rfl) ?_ ha11
    refine C_seq ?_
    refine C_region ?_
    refine V_y (Y_assign rfl) rfl rfl rfl ?_
    refine V_to (fun _ _ => rfl) ?_
    obtain rfl := Option.some.inj hm
    refine C_ret ?_
    try simp only [↓inBlock_ret, ↓then_ret]
    exact retQ rfl (Res.one Tryd.results36 rfl) ⟨rfl, hK.kp⟩

set_option maxRecDepth 4000 in
set_option maxHeartbeats 4000000 in
theorem portref2_PeopleFault_c (w : World) {A : Nat → Prop} (hA : ∀ b, w.heap.size ≤ b → A b) (l : (List route_Person)) (v_l : Value) (h_l : Sl A w v_l l) {r : Int} (hm : portref2_PeopleFault l = some r) : Ret Tryd.prog 23 #[v_l] w fun v w' => v = .int .i64 r ∧ Kp w w' := by
  unfold portref2_PeopleFault at hm
  refine enter Tryd.func23 rfl Tryd.ntmps23 rfl ?_
  have hA0 := hA
  have hB := Nat.le_refl w.heap.size
  have hK : Tr w.heap.size A w A w := Tr.refl hA
  have hH : Hp w.heap.size A w [] := Hp.nil
  refine C_seq ?_
  refine C_region ?_
  refine V_y (Y_assign rfl) rfl rfl rfl ?_
  refine V_to (fun _ _ => rfl) ?_
  refine C_seq ?_
  refine C_seq ?_
  refine C_region ?_
  refine V_y (Y_move rfl) rfl rfl rfl ?_
  refine V_y (Y_lenSl h_l rfl Tryd.underlying22 rfl) rfl rfl rfl ?_
  refine V_y (Y_gtr rfl rfl) rfl rfl rfl ?_
  refine V_to (fun _ _ => rfl) ?_
  refine C_cond rfl (fun hc3 => ?_) (fun hc3 => ?_)
  · rw [if_pos hc3] at hm
    refine C_seq ?_
    refine C_region ?_
    refine V_y (Y_assign rfl) rfl rfl rfl ?_
    refine V_to (fun _ _ => rfl) ?_
    obtain rfl := Option.some.inj hm
    refine C_ret ?_
    try simp only [↓inBlock_ret, ↓then_ret]
    exact retQ rfl (Res.one Tryd.results23 rfl) ⟨rfl, hK.kp⟩
  · rw [if_neg (nt hc3)] at hm
    refine C_skip_to (fun _ _ => rfl) ?_
    refine C_seq ?_
    refine C_seq ?_
    refine C_region ?_
    refine V_y (Y_move rfl) rfl rfl rfl ?_
    refine V_y (Y_lenSl h_l rfl Tryd.underlying22 rfl) rfl rfl rfl ?_
    refine V_y (Y_move rfl) rfl rfl rfl ?_
    refine V_to (fun _ _ => rfl) ?_
    have hn25 := Sl.le h_l
    obtain ⟨o4, ho4, hm⟩ := Option.bind_eq_some_iff.1 hm
    refine C_cutG (ι := (Unit × (Nat → Prop))) (fun ⟨s5, A12⟩ => []) (fun ⟨s5, A12⟩ => fun w' => o4 = .fin s5 ∧ Hp w.heap.size A12 w' ([]) ∧ Tr w.heap.size A w A12 w') ?_ ?_
    · refine C_block ?_
      refine C_range ho4 (fun k7 _ a w' => ∃ i : (Nat → Prop), Has ⟨65, [], none⟩ a ([(0, v_l), (9, v_l), (10, .int .i64 (l.length : Int)), (11, .int .i64 (k7 : Int))]) ∧ Hp w.heap.size i w' ([]) ∧ Tr w.heap.size A w i w') (fun a ha => ⟨A, ha.sub ⟨rfl, rfl, rfl, rfl, trivial⟩, ⟨hH, Tr.refl hA⟩⟩) ?_
      rintro K k7 _ a w15 ⟨A16, ha84, hH17, hr6⟩ hle21 K24 h23
      refine C_of ?_ ha84
      replace h_l := Sl.tr h_l hr6
      replace hK := Tr.trans hK hr6
      replace hB := Nat.le_trans hB hr6.ex.size
      replace hA := hr6.new
      replace hH : Hp w.heap.size A16 w15 ([]) := hH17
      refine C_seq (C_region (V_y (Y_lss rfl rfl) rfl rfl rfl (V_to (fun _ _ => rfl) ?_)))
      refine C_seq ?_
      refine C_cond rfl (fun hc26 => ?_) (fun hc26 => ?_)
      · have hlt22 := lt_of_dec hc26
        obtain ⟨x18, h19, h20⟩ := K24 hlt22
        refine C_skip_to (fun _ _ => rfl) ?_
        refine C_seq ?_
        refine C_block ?_
        refine C_seq ?_
        refine C_region ?_
        refine V_y (Y_move rfl) rfl rfl rfl ?_
        obtain ⟨x27, hx27, h19⟩ := Option.bind_eq_some_iff.1 h19
        refine V_indexAddr h_l hx27 Tryd.underlying22 Tryd.sizeOf46 rfl rfl rfl ?_
        intro b28 o29 h30
        obtain ⟨v31, h33, h32⟩ := El_route_Person h30
        refine V_y (Y_loadA h33 Tryd.isAgg46 Tryd.sizeOf46 rfl) rfl rfl rfl ?_
        refine V_alloc Tryd.zeroValue46 rfl ?_
        intro b34 w35 h36
        refine V_y (Y_assign rfl) rfl rfl rfl ?_
        have h41 : (v31).oneCell' = true := by obtain ⟨_, _, e, _⟩ := Sl.form h32; rw [e]; rfl
        refine V_storeNew h36 Tryd.sizeOf46 rfl rfl rfl rfl (by exact (List.forall_mem_cons.2 ⟨rfl, (List.forall_mem_cons.2 ⟨rfl, (List.forall_mem_cons.2 ⟨rfl, (List.forall_mem_cons.2 ⟨h41, (fun _ h => nomatch h)⟩)⟩)⟩)⟩)) ?_
        intro w37 h38
        have hk43 := h38.kp
        have h42 : El (α := route_Person) A16 w37 b34 0 x27 := h38.el hA ⟨[.int .i64 x27.no], _, rfl, rfl, ⟨[.int .i64 x27.capacity], _, rfl, rfl, ⟨[.int .i64 x27.calendar], _, rfl, rfl, ⟨_, rfl, h32⟩⟩⟩⟩
        have ht44 := Kp.tr hk43 hA hB
        replace hH := Hp.kp hH hk43
        replace h_l := Sl.tr h_l ht44
        replace h30 := El.tr h30 ht44
        replace h32 := Sl.tr h32 ht44
        replace hK := Tr.trans hK ht44
        replace hr6 := Tr.trans hr6 ht44
        replace hB := Nat.le_trans hB ht44.ex.size
        replace hA := ht44.new
        refine V_to (fun _ _ => rfl) ?_
        refine C_seq ?_
        refine C_block ?_
        refine C_seq ?_
        refine C_region ?_
        have h45 := El_route_Person_0 h42
        refine V_y (Y_fieldAddr Tryd.underlying46 rfl Tryd.sizeOf3 (by decide) rfl) rfl rfl rfl ?_
        refine V_y (Y_load (El.int h45) Tryd.isAgg3 rfl) rfl rfl rfl ?_
        refine V_y (Y_lss rfl rfl) rfl rfl rfl ?_
        refine V_y (Y_move rfl) rfl rfl rfl ?_
        refine V_cut 4 (fun _ : Unit => [(0, v_l), (3, .int .i64 (k7 : Int)), (4, .pointer (some ⟨b34, 0, none⟩)), (9, v_l), (10, .int .i64 (l.length : Int)), (11, .int .i64 (k7 : Int)), (24, .bool ((decide (x27.no < 1)) || (decide ((40 : Int) < x27.no))))]) (fun _ w' => w37 = w') ?_ ?_
        · simp only [List.take, List.drop]
          rcases Bool.eq_false_or_eq_true (decide (x27.no < 1)) with hc46 | hc46
          · refine V_gn rfl rfl rfl hc46 rfl rfl rfl ?_
            refine V_gn rfl rfl rfl hc46 rfl rfl rfl ?_
            refine V_gn rfl rfl rfl hc46 rfl rfl rfl ?_
            refine V_y (Y_pick_te rfl hc46 rfl) rfl rfl rfl ?_
            exact V_end fun a ha => ⟨(), ha.sub ⟨rfl, rfl, rfl, rfl, rfl, rfl, (by rw [hc46]; rfl), trivial⟩, rfl⟩
          · refine V_ge rfl rfl rfl hc46 ?_
            have h48 := El_route_Person_0 h42
            refine V_y (Y_fieldAddr Tryd.underlying46 rfl Tryd.sizeOf3 (by decide) rfl) rfl rfl rfl ?_
            refine V_ge rfl rfl rfl hc46 ?_
            refine V_y (Y_load (El.int h48) Tryd.isAgg3 rfl) rfl rfl rfl ?_
            refine V_ge rfl rfl rfl hc46 ?_
            refine V_y (Y_gtr rfl rfl) rfl rfl rfl ?_
            refine V_y (Y_pick_fe rfl hc46 rfl) rfl rfl rfl ?_
            exact V_end fun a ha => ⟨(), ha.sub ⟨rfl, rfl, rfl, rfl, rfl, rfl, (by rw [hc46]; rfl), trivial⟩, rfl⟩
        simp only [List.take, List.drop]
        rintro _ _ rfl
        refine V_y (Y_assign rfl) rfl rfl rfl ?_
        refine V_to (fun _ _ => rfl) ?_
        refine C_cond rfl (fun hc49 => ?_) (fun hc49 => ?_)
        · rw [if_pos hc49] at h19
          refine C_seq ?_
          refine C_region ?_
          refine V_y (Y_assign rfl) rfl rfl rfl ?_
          refine V_to (fun _ _ => rfl) ?_
          obtain rfl := Option.some.inj h19
          obtain rfl := (h20 : Lp.rt _ = _)
          rw [Lp.andThen_rt] at hm
          obtain rfl := Option.some.inj hm
          refine C_ret ?_
          try simp only [↓inBlock_ret, ↓then_ret]
          exact retQ rfl (Res.one Tryd.results23 rfl) ⟨rfl, hK.kp⟩
        · rw [if_neg (nt hc49)] at h19
          refine C_seq ?_
          refine C_region_q Tryd_mixed (by kernel_rfl) ?_
          refine VQ_y (fun w' hw' => Y_move rfl) rfl rfl rfl ?_
          refine VQ_y (fun w' hw' => Y_gtr rfl rfl) rfl rfl rfl ?_
          refine VQ_y (fun w' hw' => Y_move rfl) rfl rfl rfl ?_
          obtain ⟨s51, hs51, h19⟩ := Option.bind_eq_some_iff.1 h19
          refine VQ_cut 10 (fun _ : Unit => [(0, v_l), (4, .pointer (some ⟨b34, 0, none⟩)), (9, v_l), (10, .int .i64 (l.length : Int)), (11, .int .i64 (k7 : Int)), (38, .bool s51)]) (fun _ => True) ?_ ?_
          · simp only [List.take, List.drop]
            rcases Bool.eq_false_or_eq_true (decide ((0 : Int) < (k7 : Int))) with hc50 | hc50
            · rw [if_pos hc50] at hs51
              refine VQ_ge rfl rfl rfl hc50 ?_
              have h52 := El_route_Person_0 h42
              refine VQ_y (fun w' hw' => Y_fieldAddr Tryd.underlying46 rfl Tryd.sizeOf3 (by decide) rfl) rfl rfl rfl ?_
              refine VQ_ge rfl rfl rfl hc50 ?_
              refine VQ_y (fun w' hw' => Y_load (El.int (El.kp h52 hw')) Tryd.isAgg3 rfl) rfl rfl rfl ?_
              refine VQ_ge rfl rfl rfl hc50 ?_
              refine VQ_y (fun w' hw' => Y_move rfl) rfl rfl rfl ?_
              refine VQ_ge rfl rfl rfl hc50 ?_
              refine VQ_y (fun w' hw' => Y_move rfl) rfl rfl rfl ?_
              refine VQ_ge rfl rfl rfl hc50 ?_
              refine VQ_y (fun w' hw' => Y_subI rfl rfl) rfl rfl rfl ?_
              refine VQ_ge rfl rfl rfl hc50 ?_
              obtain ⟨x53, hx53, hs51⟩ := Option.bind_eq_some_iff.1 hs51
              refine VQ_indexAddr h_l hx53 Tryd.underlying22 Tryd.sizeOf46 rfl rfl rfl ?_
              intro b54 o55 h56
              refine VQ_ge rfl rfl rfl hc50 ?_
              have h57 := El_route_Person_0 h56
              refine VQ_y (fun w' hw' => Y_fieldAddr Tryd.underlying46 rfl Tryd.sizeOf3 (by decide) rfl) rfl rfl rfl ?_
              refine VQ_ge rfl rfl rfl hc50 ?_
              refine VQ_y (fun w' hw' => Y_load (El.int (El.kp h57 hw')) Tryd.isAgg3 rfl) rfl rfl rfl ?_
              refine VQ_ge rfl rfl rfl hc50 ?_
              refine VQ_y (fun w' hw' => Y_leq rfl rfl) rfl rfl rfl ?_
              refine VQ_y (fun _ _ => Y_pick_te rfl hc50 rfl) rfl rfl rfl ?_
              obtain rfl := Option.some.inj hs51
              exact VQ_end fun a ha => ⟨(), ha.sub ⟨rfl, rfl, rfl, rfl, rfl, rfl, trivial⟩, trivial⟩
            · rw [if_neg (nt hc50)] at hs51
              refine VQ_gn rfl rfl rfl hc50 rfl rfl rfl ?_
              refine VQ_gn rfl rfl rfl hc50 rfl rfl rfl ?_
              refine VQ_gn rfl rfl rfl hc50 rfl rfl rfl ?_
              refine VQ_gn rfl rfl rfl hc50 rfl rfl rfl ?_
              refine VQ_gn rfl rfl rfl hc50 rfl rfl rfl ?_
              refine VQ_gn rfl rfl rfl hc50 rfl rfl rfl ?_
              refine VQ_gn rfl rfl rfl hc50 rfl rfl rfl ?_
              refine VQ_gn rfl rfl rfl hc50 rfl rfl rfl ?_
              refine VQ_gn rfl rfl rfl hc50 rfl rfl rfl ?_
              refine VQ_y (fun _ _ => Y_pick_fe rfl hc50 rfl) rfl rfl rfl ?_
              obtain rfl := Option.some.inj hs51
              exact VQ_end fun a ha => ⟨(), ha.sub ⟨rfl, rfl, rfl, rfl, rfl, rfl, trivial⟩, trivial⟩
          simp only [List.take, List.drop]
          rintro _ _
          refine VQ_y (fun w' hw' => Y_assign rfl) rfl rfl rfl ?_
          refine VQ_to (fun _ _ => rfl) (fun w58 hk59 => ?_)
          have ht60 := Kp.tr hk59 hA hB
          replace hH := Hp.kp hH hk59
          replace h_l := Sl.tr h_l ht60
          replace h42 := El.tr h42 ht60
          replace hK := Tr.trans hK ht60
          replace hr6 := Tr.trans hr6 ht60
          replace hB := Nat.le_trans hB ht60.ex.size
          replace hA := ht60.new
          refine C_cond rfl (fun hc61 => ?_) (fun hc61 => ?_)
          · rw [if_pos hc61] at h19
            refine C_seq ?_
            refine C_region ?_
            refine V_y (Y_assign rfl) rfl rfl rfl ?_
            refine V_to (fun _ _ => rfl) ?_
            obtain rfl := Option.some.inj h19
            obtain rfl := (h20 : Lp.rt _ = _)
            rw [Lp.andThen_rt] at hm
            obtain rfl := Option.some.inj hm
            refine C_ret ?_
            try simp only [↓inBlock_ret, ↓then_ret]
            exact retQ rfl (Res.one Tryd.results23 rfl) ⟨rfl, hK.kp⟩
          · rw [if_neg (nt hc61)] at h19
            refine C_seq ?_
            refine C_region ?_
            have h62 := El_route_Person_1 h42
            refine V_y (Y_fieldAddr Tryd.underlying46 rfl Tryd.sizeOf3 (by decide) rfl) rfl rfl rfl ?_
            refine V_y (Y_load (El.int h62) Tryd.isAgg3 rfl) rfl rfl rfl ?_
            refine V_y (Y_lss rfl rfl) rfl rfl rfl ?_
            refine V_y (Y_move rfl) rfl rfl rfl ?_
            refine V_cut 4 (fun _ : Unit => [(0, v_l), (4, .pointer (some ⟨b34, 0, none⟩)), (9, v_l), (10, .int .i64 (l.length : Int)), (11, .int .i64 (k7 : Int)), (47, .bool ((decide (x27.capacity < 0)) || (decide ((100 : Int) < x27.capacity))))]) (fun _ w' => w58 = w') ?_ ?_
            · simp only [List.take, List.drop]
              rcases Bool.eq_false_or_eq_true (decide (x27.capacity < 0)) with hc63 | hc63
              · refine V_gn rfl rfl rfl hc63 rfl rfl rfl ?_
                refine V_gn rfl rfl rfl hc63 rfl rfl rfl ?_
                refine V_gn rfl rfl rfl hc63 rfl rfl rfl ?_
                refine V_y (Y_pick_te rfl hc63 rfl) rfl rfl rfl ?_
                exact V_end fun a ha => ⟨(), ha.sub ⟨rfl, rfl, rfl, rfl, rfl, (by rw [hc63]; rfl), trivial⟩, rfl⟩
              · refine V_ge rfl rfl rfl hc63 ?_
                have h65 := El_route_Person_1 h42
                refine V_y (Y_fieldAddr Tryd.underlying46 rfl Tryd.sizeOf3 (by decide) rfl) rfl rfl rfl ?_
                refine V_ge rfl rfl rfl hc63 ?_
                refine V_y (Y_load (El.int h65) Tryd.isAgg3 rfl) rfl rfl rfl ?_
                refine V_ge rfl rfl rfl hc63 ?_
                refine V_y (Y_gtr rfl rfl) rfl rfl rfl ?_
                refine V_y (Y_pick_fe rfl hc63 rfl) rfl rfl rfl ?_
                exact V_end fun a ha => ⟨(), ha.sub ⟨rfl, rfl, rfl, rfl, rfl, (by rw [hc63]; rfl), trivial⟩, rfl⟩
            simp only [List.take, List.drop]
            rintro _ _ rfl
            refine V_y (Y_move rfl) rfl rfl rfl ?_
            refine V_cut 4 (fun _ : Unit => [(0, v_l), (4, .pointer (some ⟨b34, 0, none⟩)), (9, v_l), (10, .int .i64 (l.length : Int)), (11, .int .i64 (k7 : Int)), (52, .bool (((decide (x27.capacity < 0)) || (decide ((100 : Int) < x27.capacity))) || (decide (x27.calendar < 0))))]) (fun _ w' => w58 = w') ?_ ?_
            · simp only [List.take, List.drop]
              rcases Bool.eq_false_or_eq_true (((decide (x27.capacity < 0)) || (decide ((100 : Int) < x27.capacity)))) with hc66 | hc66
              · refine V_gn rfl rfl rfl hc66 rfl rfl rfl ?_
                refine V_gn rfl rfl rfl hc66 rfl rfl rfl ?_
                refine V_gn rfl rfl rfl hc66 rfl rfl rfl ?_
                refine V_y (Y_pick_te rfl hc66 rfl) rfl rfl rfl ?_
                exact V_end fun a ha => ⟨(), ha.sub ⟨rfl, rfl, rfl, rfl, rfl, (by rw [hc66]; rfl), trivial⟩, rfl⟩
              · refine V_ge rfl rfl rfl hc66 ?_
                have h68 := El_route_Person_2 h42
                refine V_y (Y_fieldAddr Tryd.underlying46 rfl Tryd.sizeOf3 (by decide) rfl) rfl rfl rfl ?_
                refine V_ge rfl rfl rfl hc66 ?_
                refine V_y (Y_load (El.int h68) Tryd.isAgg3 rfl) rfl rfl rfl ?_
                refine V_ge rfl rfl rfl hc66 ?_
                refine V_y (Y_lss rfl rfl) rfl rfl rfl ?_
                refine V_y (Y_pick_fe rfl hc66 rfl) rfl rfl rfl ?_
                exact V_end fun a ha => ⟨(), ha.sub ⟨rfl, rfl, rfl, rfl, rfl, (by rw [hc66]; rfl), trivial⟩, rfl⟩
            simp only [List.take, List.drop]
            rintro _ _ rfl
            refine V_y (Y_move rfl) rfl rfl rfl ?_
            refine V_cut 4 (fun _ : Unit => [(0, v_l), (4, .pointer (some ⟨b34, 0, none⟩)), (9, v_l), (10, .int .i64 (l.length : Int)), (11, .int .i64 (k7 : Int)), (57, .bool ((((decide (x27.capacity < 0)) || (decide ((100 : Int) < x27.capacity))) || (decide (x27.calendar < 0))) || (decide ((20 : Int) ≤ x27.calendar))))]) (fun _ w' => w58 = w') ?_ ?_
            · simp only [List.take, List.drop]
              rcases Bool.eq_false_or_eq_true ((((decide (x27.capacity < 0)) || (decide ((100 : Int) < x27.capacity))) || (decide (x27.calendar < 0)))) with hc69 | hc69
              · refine V_gn rfl rfl rfl hc69 rfl rfl rfl ?_
                refine V_gn rfl rfl rfl hc69 rfl rfl rfl ?_
                refine V_gn rfl rfl rfl hc69 rfl rfl rfl ?_
                refine V_y (Y_pick_te rfl hc69 rfl) rfl rfl rfl ?_
                exact V_end fun a ha => ⟨(), ha.sub ⟨rfl, rfl, rfl, rfl, rfl, (by rw [hc69]; rfl), trivial⟩, rfl⟩
              · refine V_ge rfl rfl rfl hc69 ?_
                have h71 := El_route_Person_2 h42
                refine V_y (Y_fieldAddr Tryd.underlying46 rfl Tryd.sizeOf3 (by decide) rfl) rfl rfl rfl ?_
                refine V_ge rfl rfl rfl hc69 ?_
                refine V_y (Y_load (El.int h71) Tryd.isAgg3 rfl) rfl rfl rfl ?_
                refine V_ge rfl rfl rfl hc69 ?_
                refine V_y (Y_geq rfl rfl) rfl rfl rfl ?_
                refine V_y (Y_pick_fe rfl hc69 rfl) rfl rfl rfl ?_
                exact V_end fun a ha => ⟨(), ha.sub ⟨rfl, rfl, rfl, rfl, rfl, (by rw [hc69]; rfl), trivial⟩, rfl⟩
            simp only [List.take, List.drop]
            rintro _ _ rfl
            refine V_y (Y_assign rfl) rfl rfl rfl ?_
            refine V_to (fun _ _ => rfl) ?_
            refine C_cond rfl (fun hc72 => ?_) (fun hc72 => ?_)
            · rw [if_pos hc72] at h19
              refine C_seq ?_
              refine C_region ?_
              refine V_y (Y_assign rfl) rfl rfl rfl ?_
              refine V_to (fun _ _ => rfl) ?_
              obtain rfl := Option.some.inj h19
              obtain rfl := (h20 : Lp.rt _ = _)
              rw [Lp.andThen_rt] at hm
              obtain rfl := Option.some.inj hm
              refine C_ret ?_
              try simp only [↓inBlock_ret, ↓then_ret]
              exact retQ rfl (Res.one Tryd.results23 rfl) ⟨rfl, hK.kp⟩
            · rw [if_neg (nt hc72)] at h19
              refine C_skip_to (fun _ _ => rfl) ?_
              refine C_seq ?_
              refine C_region ?_
              have h73 := El_route_Person_3 h42
              refine V_y (Y_fieldAddr Tryd.underlying46 rfl Tryd.sizeOf33 (by decide) rfl) rfl rfl rfl ?_
              obtain ⟨v74, h75, h76⟩ := El.list h73
              refine V_y (Y_load h75 Tryd.isAgg33 rfl) rfl rfl rfl ?_
              obtain ⟨x77, hx77, h19⟩ := Option.bind_eq_some_iff.1 h19
              refine V_call Tryd.call36 rfl rfl rfl rfl (portref2_skillsFault_c w58 hA x27.skills v74 h76 hx77) ?_
              rintro _ w78 ⟨rfl, hk79⟩
              have ht80 := Kp.tr hk79 hA hB
              replace hH := Hp.kp hH hk79
              replace h_l := Sl.tr h_l ht80
              replace h42 := El.tr h42 ht80
              replace h73 := El.tr h73 ht80
              replace h76 := Sl.tr h76 ht80
              replace hK := Tr.trans hK ht80
              replace hr6 := Tr.trans hr6 ht80
              replace hB := Nat.le_trans hB ht80.ex.size
              replace hA := ht80.new
              refine V_y (Y_assign rfl) rfl rfl rfl ?_
              refine V_to (fun _ _ => rfl) ?_
              refine C_seq ?_
              refine C_region ?_
              refine V_y (Y_move rfl) rfl rfl rfl ?_
              refine V_y (Y_neq rfl rfl) rfl rfl rfl ?_
              refine V_to (fun _ _ => rfl) ?_
              refine C_cond rfl (fun hc81 => ?_) (fun hc81 => ?_)
              · rw [if_pos hc81] at h19
                refine C_seq ?_
                refine C_region ?_
                refine V_y (Y_move rfl) rfl rfl rfl ?_
                refine V_y (Y_assign rfl) rfl rfl rfl ?_
                refine V_to (fun _ _ => rfl) ?_
                obtain rfl := Option.some.inj h19
                obtain rfl := (h20 : Lp.rt _ = _)
                rw [Lp.andThen_rt] at hm
                obtain rfl := Option.some.inj hm
                refine C_ret ?_
                try simp only [↓inBlock_ret, ↓then_ret]
                exact retQ rfl (Res.one Tryd.results23 rfl) ⟨rfl, hK.kp⟩
              · rw [if_neg (nt hc81)] at h19
                refine C_skip_to (fun _ _ => rfl) ?_
                refine C_region ?_
                refine V_y (Y_addI rfl rfl) rfl rfl rfl ?_
                refine V_y (Y_move rfl) rfl rfl rfl ?_
                obtain rfl := Option.some.inj h19
                refine V_end (fun a ha82 => ?_)
                exact ⟨(), hlt22, h20, ⟨A16, ha82.sub ⟨rfl, rfl, rfl, (congrArg (fun z => some (Value.int .i64 z)) (w64_succ hlt22 hn25)), trivial⟩, ⟨hH, hr6⟩⟩⟩
      · refine C_exit (fun a ha83 => ?_)
        exact ⟨((), A16), ha83.sub trivial, ⟨(h23 (eq_of_dec hle21 hc26)).symm, hH, hr6⟩⟩
    rintro ⟨s5, A12⟩ w9 ⟨rfl, hH13, hk10⟩ a ha11
    rw [Lp.andThen_fin] at hm
    replace hK := Tr.trans hK hk10
    replace hB := Nat.le_trans hB hk10.ex.size
    replace hA := hk10.new
    replace hH : Hp w.heap.size A12 w9 ([]) := hH13
    refine C_at (n := ⟨65, [], none⟩) (fun _ _ => rfl) ?_ ha11
    refine C_seq ?_
    refine C_region ?_
    refine V_y (Y_assign rfl) rfl rfl rfl ?_
    refine V_to (fun _ _ => rfl) ?_
    obtain rfl := Option.some.inj hm
    refine C_ret ?_
    try simp only [↓inBlock_ret, ↓then_ret]
    exact retQ rfl (Res.one Tryd.results23 rfl) ⟨rfl, hK.kp⟩

set_option maxRecDepth 4000 in
set_option maxHeartbeats 4000000 in
theorem portref2_personAt_1_c (w : World) {A : Nat → Prop} (hA : ∀ b, w.heap.size ≤ b → A b) (p : route_Person) (v_p : Value) (h_p : Sl A w v_p p.skills) (p1 : Int) (b_p1 : Nat) (h_p1 : El A w b_p1 0 p1) {r : Bool} (hm : portref2_personAt_1 p p1 = some r) : Ret Tryd.prog 52 #[.agg #[.int .i64 p.no, .int .i64 p.capacity, .int .i64 p.calendar, v_p], .pointer (some ⟨b_p1, 0, none⟩)] w fun v w' => v = .bool r ∧ Kp w w' := by
  unfold portref2_personAt_1 at hm
  refine enter Tryd.func52 rfl Tryd.ntmps52 rfl ?_
  have hA0 := hA
  have hB := Nat.le_refl w.heap.size
  have hK : Tr w.heap.size A w A w := Tr.refl hA
  have hH : Hp w.heap.size A w [] := Hp.nil
  refine C_seq ?_
  refine C_region ?_
  refine V_box rfl rfl ?_
  intro b3 w4 h5
  have hk7 := h5.kp
  have h6 : El (α := route_Person) A w4 b3 0 p := h5.el hA ⟨[.int .i64 p.no], _, rfl, rfl, ⟨[.int .i64 p.capacity], _, rfl, rfl, ⟨[.int .i64 p.calendar], _, rfl, rfl, ⟨_, rfl, h_p⟩⟩⟩⟩
  have ht8 := Kp.tr hk7 hA hB
  replace hH := Hp.kp hH hk7
  replace h_p := Sl.tr h_p ht8
  replace h_p1 := El.tr h_p1 ht8
  replace hK := Tr.trans hK ht8
  replace hB := Nat.le_trans hB ht8.ex.size
  replace hA := ht8.new
  refine V_y (Y_assign rfl) rfl rfl rfl ?_
  refine V_to (fun _ _ => rfl) ?_
  refine C_seq ?_
  refine C_region ?_
  have h9 := El_route_Person_0 h6
  refine V_y (Y_fieldAddr Tryd.underlying46 rfl Tryd.sizeOf3 (by decide) rfl) rfl rfl rfl ?_
  refine V_y (Y_load (El.int h9) Tryd.isAgg3 rfl) rfl rfl rfl ?_
  refine V_y (Y_load (El.int h_p1) Tryd.isAgg3 rfl) rfl rfl rfl ?_
  refine V_y (Y_eql rfl rfl) rfl rfl rfl ?_
  refine V_y (Y_assign rfl) rfl rfl rfl ?_
  refine V_to (fun _ _ => rfl) ?_
  obtain rfl := Option.some.inj hm
  refine C_ret ?_
  try simp only [↓inBlock_ret, ↓then_ret]
  exact retQ rfl (Res.one Tryd.results52 rfl) ⟨rfl, hK.kp⟩

set_option maxRecDepth 4000 in
set_option maxHeartbeats 4000000 in
theorem portref2_personAt_c (w : World) {A : Nat → Prop} (hA : ∀ b, w.heap.size ≤ b → A b) (people : (List route_Person)) (v_people : Value) (h_people : Sl A w v_people people) (no : Int) {r : Int} (hm : portref2_personAt people no = some r) : Ret Tryd.prog 40 #[v_people, .int .i64 no] w fun v w' => v = .int .i64 r ∧ Kp w w' := by
  unfold portref2_personAt at hm
  refine enter Tryd.func40 rfl Tryd.ntmps40 rfl ?_
  have hA0 := hA
  have hB := Nat.le_refl w.heap.size
  have hK : Tr w.heap.size A w A w := Tr.refl hA
  have hH : Hp w.heap.size A w [] := Hp.nil
  refine C_seq ?_
  refine C_region ?_
  refine V_box rfl rfl ?_
  intro b3 w4 h5
  have hk7 := h5.kp
  have h6 : El (α := Int) A w4 b3 0 no := h5.el hA rfl
  have ht8 := Kp.tr hk7 hA hB
  replace hH := Hp.kp hH hk7
  replace h_people := Sl.tr h_people ht8
  replace hK := Tr.trans hK ht8
  replace hB := Nat.le_trans hB ht8.ex.size
  replace hA := ht8.new
  refine V_y (Y_assign rfl) rfl rfl rfl ?_
  refine V_to (fun _ _ => rfl) ?_
  refine C_seq ?_
  refine C_region ?_
  refine V_y (Y_move rfl) rfl rfl rfl ?_
  refine V_y (Y_makeFunc rfl rfl) rfl rfl rfl ?_
  obtain ⟨x10, hx10, hm⟩ := Option.bind_eq_some_iff.1 hm
  refine V_call Tryd.call50 rfl rfl rfl rfl (slices_IndexFunc_Lroute_Person_route_Person_c w4 hA people v_people h_people (fun y21 => portref2_personAt_1 y21 no) 52 #[] #[.pointer (some ⟨b3, 0, none⟩)] Tryd.call52 (fun w17 A18 ht19 h20 y11 v12 h13 r14 h15 => (portref2_personAt_1_c w17 h20 y11 v12 h13 no b3 (El.tr h6 ht19) h15).mono (fun _ _ h => ⟨h.1, h.2⟩)) hx10) ?_
  rintro _ w22 ⟨rfl, hk23⟩
  have ht24 := Kp.tr hk23 hA hB
  replace hH := Hp.kp hH hk23
  replace h_people := Sl.tr h_people ht24
  replace h6 := El.tr h6 ht24
  replace hK := Tr.trans hK ht24
  replace hB := Nat.le_trans hB ht24.ex.size
  replace hA := ht24.new
  refine V_y (Y_assign rfl) rfl rfl rfl ?_
  refine V_to (fun _ _ => rfl) ?_
  obtain rfl := Option.some.inj hm
  refine C_ret ?_
  try simp only [↓inBlock_ret, ↓then_ret]
  exact retQ rfl (Res.one Tryd.results40 rfl) ⟨rfl, hK.kp⟩

set_option maxRecDepth 4000 in
set_option maxHeartbeats 4000000 in
theorem portref2_IsMoment_c (w : World) (m : Int) : Ret Tryd.prog 32 #[.int .i64 m] w fun v w' => v = .bool (portref2_IsMoment m) ∧ w = w' := by
  generalize hm : portref2_IsMoment m = r
  unfold portref2_IsMoment at hm
  refine enter Tryd.func32 rfl Tryd.ntmps32 rfl ?_
  refine C_seq ?_
  refine C_region ?_
  refine V_y (Y_assign rfl) rfl rfl rfl ?_
  refine V_to (fun _ _ => rfl) ?_
  refine C_seq ?_
  refine C_region ?_
  refine V_y (Y_move rfl) rfl rfl rfl ?_
  refine V_y (Y_geq rfl rfl) rfl rfl rfl ?_
  refine V_y (Y_move rfl) rfl rfl rfl ?_
  refine V_cut 3 (fun _ : Unit => [(8, .bool ((decide ((0 : Int) ≤ m)) && (decide (m ≤ 3000000))))]) (fun _ w' => w = w') ?_ ?_
  · simp only [List.take, List.drop]
    rcases Bool.eq_false_or_eq_true (decide ((0 : Int) ≤ m)) with hc1 | hc1
    · refine V_ge rfl rfl rfl hc1 ?_
      refine V_y (Y_move rfl) rfl rfl rfl ?_
      refine V_ge rfl rfl rfl hc1 ?_
      refine V_y (Y_leq rfl rfl) rfl rfl rfl ?_
      refine V_y (Y_pick_te rfl hc1 rfl) rfl rfl rfl ?_
      exact V_end fun a ha => ⟨(), ha.sub ⟨(by rw [hc1]; rfl), trivial⟩, rfl⟩
    · refine V_gn rfl rfl rfl hc1 rfl rfl rfl ?_
      refine V_gn rfl rfl rfl hc1 rfl rfl rfl ?_
      refine V_y (Y_pick_fe rfl hc1 rfl) rfl rfl rfl ?_
      exact V_end fun a ha => ⟨(), ha.sub ⟨(by rw [hc1]; rfl), trivial⟩, rfl⟩
  simp only [List.take, List.drop]
  rintro _ _ rfl
  refine V_y (Y_assign rfl) rfl rfl rfl ?_
  refine V_to (fun _ _ => rfl) ?_
  obtain rfl := hm
  refine C_ret ?_
  try simp only [↓inBlock_ret, ↓then_ret]
  exact retQ rfl (Res.one Tryd.results32 rfl) ⟨rfl, rfl⟩

end Go.Proofs.YtigplgkbilmabaaDoor.W
