/-
  Written by program (gen.py) from the IR of the dump: each function computes its model.
-/
import Derived.Test.YtgmenjhmnjhgoaaDoorProg
import Derived.Test.YtgmenjhmnjhgoaaDoorGe
import Derived.Test.YtgmenjhmnjhgoaaDoorRouteMatchesM
import Derived.KernelRfl
import Derived.Test.YtgmenjhmnjhgoaaDoorIa
import Derived.Shelf.Strings.SlTrimAscii
import Derived.Test.YtgmenjhmnjhgoaaDoorGv
import Derived.Test.YtgmenjhmnjhgoaaDoorGy
import Derived.Test.YtgmenjhmnjhgoaaDoorHe
namespace Go.Proofs.YtgmenjhmnjhgoaaDoor.W
open Go Go.RowKit Go.Pu Go.Gw Go.Proofs Go.Proofs.YtgmenjhmnjhgoaaDoor.M
set_option linter.unusedVariables false
set_option linter.unusedSimpArgs false
variable {Dw : Prop}

theorem Tryd_info3 : Tryd.prog.info? 3 = some Tryd.t3 := by kernel_rfl
theorem Tryd_info4 : Tryd.prog.info? 4 = some Tryd.t4 := by kernel_rfl
theorem Tryd_info24 : Tryd.prog.info? 24 = some Tryd.t24 := by kernel_rfl
theorem Tryd_places41 : ∀ fs, Tryd.prog.underlying 41 = some (.struct fs) → ∀ w : World, (Array.mapM (fun (f : Field) => do pure (f.offset, ← Go.sizeOf f.type)) fs).run Tryd.prog w = .ok #[(0, 1), (1, 1), (2, 1), (3, 1), (4, 1)] w := by
  intro fs h w
  rw [Tryd.underlying41] at h
  cases h
  kernel_rfl
theorem Tryd_mixed : Tryd.prog.follows .mixedOrders = true := by kernel_rfl

instance : GoT route_Skill := GoT.of (β := ByteArray × Int) fun x => (x.name, x.rank)

instance : Flat route_Skill := ⟨fun {A w A1 w1 cs x} h => Flat.flat (α := ByteArray × Int) (x := (x.name, x.rank)) (A := A) (w := w) h⟩

theorem El_route_Skill_ {A : Nat → Prop} {w : World} {b off : Nat} {x : route_Skill} (h : El A w b off x) : El (α := ByteArray × Int) A w b off (x.name, x.rank) := h

theorem El_route_Skill_0 {A : Nat → Prop} {w : World} {b off : Nat} {x : route_Skill} (h : El A w b off x) : El A w b (off + 0) x.name := El.fst (El_route_Skill_ h)

theorem El_route_Skill_1 {A : Nat → Prop} {w : World} {b off : Nat} {x : route_Skill} (h : El A w b off x) : El A w b (off + 1) x.rank := El.snd (El_route_Skill_ h)

theorem El_route_Skill {A : Nat → Prop} {w : World} {b off : Nat} {x : route_Skill} (h : El A w b off x) : At w b off [.string x.name, .int .i64 x.rank] ∧ True := by
  obtain ⟨h1, h2, cs, h3, h4⟩ := h
  obtain ⟨_, _, rfl, rfl, rfl⟩ := h3
  exact ⟨h4, trivial⟩

instance : GoT route_Person := GoT.of (β := Int × Int × Int × (List route_Skill)) fun x => (x.no, x.capacity, x.calendar, x.skills)

theorem El_route_Person_ {A : Nat → Prop} {w : World} {b off : Nat} {x : route_Person} (h : El A w b off x) : El (α := Int × Int × Int × (List route_Skill)) A w b off (x.no, x.capacity, x.calendar, x.skills) := h

theorem El_route_Person_0 {A : Nat → Prop} {w : World} {b off : Nat} {x : route_Person} (h : El A w b off x) : El A w b (off + 0) x.no := El.fst (El_route_Person_ h)

theorem El_route_Person_1 {A : Nat → Prop} {w : World} {b off : Nat} {x : route_Person} (h : El A w b off x) : El A w b (off + 1) x.capacity := El.fst (El.snd (El_route_Person_ h))

theorem El_route_Person_2 {A : Nat → Prop} {w : World} {b off : Nat} {x : route_Person} (h : El A w b off x) : El A w b (off + 2) x.calendar := El.fst (El.snd (El.snd (El_route_Person_ h)))

theorem El_route_Person_3 {A : Nat → Prop} {w : World} {b off : Nat} {x : route_Person} (h : El A w b off x) : El A w b (off + 3) x.skills := El.snd (El.snd (El.snd (El_route_Person_ h)))

theorem El_route_Person {A : Nat → Prop} {w : World} {b off : Nat} {x : route_Person} (h : El A w b off x) : ∃ v1, At w b off [.int .i64 x.no, .int .i64 x.capacity, .int .i64 x.calendar, v1] ∧ Sl A w v1 x.skills := by
  obtain ⟨h1, h2, cs, h3, h4⟩ := h
  obtain ⟨_, _, rfl, rfl, ⟨_, _, rfl, rfl, ⟨_, _, rfl, rfl, ⟨u1, rfl, g1⟩⟩⟩⟩ := h3
  exact ⟨u1, h4, g1⟩

instance : GoT route_Work := GoT.of (β := Int × Int × Int × Int × Int × (List route_Skill)) fun x => (x.ticket, x.weight, x.urgency, x.since, x.former, x.needs)

theorem El_route_Work_ {A : Nat → Prop} {w : World} {b off : Nat} {x : route_Work} (h : El A w b off x) : El (α := Int × Int × Int × Int × Int × (List route_Skill)) A w b off (x.ticket, x.weight, x.urgency, x.since, x.former, x.needs) := h

theorem El_route_Work_0 {A : Nat → Prop} {w : World} {b off : Nat} {x : route_Work} (h : El A w b off x) : El A w b (off + 0) x.ticket := El.fst (El_route_Work_ h)

theorem El_route_Work_1 {A : Nat → Prop} {w : World} {b off : Nat} {x : route_Work} (h : El A w b off x) : El A w b (off + 1) x.weight := El.fst (El.snd (El_route_Work_ h))

theorem El_route_Work_2 {A : Nat → Prop} {w : World} {b off : Nat} {x : route_Work} (h : El A w b off x) : El A w b (off + 2) x.urgency := El.fst (El.snd (El.snd (El_route_Work_ h)))

theorem El_route_Work_3 {A : Nat → Prop} {w : World} {b off : Nat} {x : route_Work} (h : El A w b off x) : El A w b (off + 3) x.since := El.fst (El.snd (El.snd (El.snd (El_route_Work_ h))))

theorem El_route_Work_4 {A : Nat → Prop} {w : World} {b off : Nat} {x : route_Work} (h : El A w b off x) : El A w b (off + 4) x.former := El.fst (El.snd (El.snd (El.snd (El.snd (El_route_Work_ h)))))

theorem El_route_Work_5 {A : Nat → Prop} {w : World} {b off : Nat} {x : route_Work} (h : El A w b off x) : El A w b (off + 5) x.needs := El.snd (El.snd (El.snd (El.snd (El.snd (El_route_Work_ h)))))

theorem El_route_Work {A : Nat → Prop} {w : World} {b off : Nat} {x : route_Work} (h : El A w b off x) : ∃ v1, At w b off [.int .i64 x.ticket, .int .i64 x.weight, .int .i64 x.urgency, .int .i64 x.since, .int .i64 x.former, v1] ∧ Sl A w v1 x.needs := by
  obtain ⟨h1, h2, cs, h3, h4⟩ := h
  obtain ⟨_, _, rfl, rfl, ⟨_, _, rfl, rfl, ⟨_, _, rfl, rfl, ⟨_, _, rfl, rfl, ⟨_, _, rfl, rfl, ⟨u1, rfl, g1⟩⟩⟩⟩⟩⟩ := h3
  exact ⟨u1, h4, g1⟩

instance : GoT route_matcher := GoT.of (β := (List route_Person) × (List route_Work) × (List Int) × (List Int) × (List Bool)) fun x => (x.people, x.work, x.at_, x.free, x.fixed)

theorem El_route_matcher_ {A : Nat → Prop} {w : World} {b off : Nat} {x : route_matcher} (h : El A w b off x) : El (α := (List route_Person) × (List route_Work) × (List Int) × (List Int) × (List Bool)) A w b off (x.people, x.work, x.at_, x.free, x.fixed) := h

theorem El_route_matcher_0 {A : Nat → Prop} {w : World} {b off : Nat} {x : route_matcher} (h : El A w b off x) : El A w b (off + 0) x.people := El.fst (El_route_matcher_ h)

theorem El_route_matcher_1 {A : Nat → Prop} {w : World} {b off : Nat} {x : route_matcher} (h : El A w b off x) : El A w b (off + 1) x.work := El.fst (El.snd (El_route_matcher_ h))

theorem El_route_matcher_2 {A : Nat → Prop} {w : World} {b off : Nat} {x : route_matcher} (h : El A w b off x) : El A w b (off + 2) x.at_ := El.fst (El.snd (El.snd (El_route_matcher_ h)))

theorem El_route_matcher_3 {A : Nat → Prop} {w : World} {b off : Nat} {x : route_matcher} (h : El A w b off x) : El A w b (off + 3) x.free := El.fst (El.snd (El.snd (El.snd (El_route_matcher_ h))))

theorem El_route_matcher_4 {A : Nat → Prop} {w : World} {b off : Nat} {x : route_matcher} (h : El A w b off x) : El A w b (off + 4) x.fixed := El.snd (El.snd (El.snd (El.snd (El_route_matcher_ h))))

theorem El_route_matcher {A : Nat → Prop} {w : World} {b off : Nat} {x : route_matcher} (h : El A w b off x) : ∃ v1 v3 v5 v7 v9, At w b off [v1, v3, v5, v7, v9] ∧ Sl A w v1 x.people ∧ Sl A w v3 x.work ∧ Sl A w v5 x.at_ ∧ Sl A w v7 x.free ∧ Sl A w v9 x.fixed := by
  obtain ⟨h1, h2, cs, h3, h4⟩ := h
  obtain ⟨_, _, rfl, ⟨u1, rfl, g1⟩, ⟨_, _, rfl, ⟨u2, rfl, g2⟩, ⟨_, _, rfl, ⟨u3, rfl, g3⟩, ⟨_, _, rfl, ⟨u4, rfl, g4⟩, ⟨u5, rfl, g5⟩⟩⟩⟩⟩ := h3
  exact ⟨u1, u2, u3, u4, u5, h4, g1, g2, g3, g4, g5⟩


set_option maxRecDepth 4000 in
set_option maxHeartbeats 4000000 in
theorem route_within_c (w : World) (n : Int) (low : Int) (high : Int) : Ret Tryd.prog 20 #[.int .i64 n, .int .i64 low, .int .i64 high] w fun v w' => v = .bool (route_within n low high) ∧ w = w' := by
  generalize hm : route_within n low high = r
  unfold route_within at hm
  refine enter Tryd.func20 rfl Tryd.ntmps20 rfl ?_
  refine C_seq ?_
  refine C_region ?_
  refine V_y (Y_assign rfl) rfl rfl rfl ?_
  refine V_to (fun _ _ => rfl) ?_
  refine C_seq ?_
  refine C_region ?_
  refine V_y (Y_move rfl) rfl rfl rfl ?_
  refine V_y (Y_move rfl) rfl rfl rfl ?_
  refine V_y (Y_geq rfl rfl) rfl rfl rfl ?_
  refine V_y (Y_move rfl) rfl rfl rfl ?_
  refine V_cut 4 (fun _ : Unit => [(14, .bool ((decide (low ≤ n)) && (decide (n ≤ high))))]) (fun _ w' => w = w') ?_ ?_
  · simp only [List.take, List.drop]
    rcases Bool.eq_false_or_eq_true (decide (low ≤ n)) with hc1 | hc1
    · refine V_ge rfl rfl rfl hc1 ?_
      refine V_y (Y_move rfl) rfl rfl rfl ?_
      refine V_ge rfl rfl rfl hc1 ?_
      refine V_y (Y_move rfl) rfl rfl rfl ?_
      refine V_ge rfl rfl rfl hc1 ?_
      refine V_y (Y_leq rfl rfl) rfl rfl rfl ?_
      refine V_y (Y_pick_te rfl hc1 rfl) rfl rfl rfl ?_
      exact V_end fun a ha => ⟨(), ha.sub ⟨(by rw [hc1]; rfl), trivial⟩, rfl⟩
    · refine V_gn rfl rfl rfl hc1 rfl rfl rfl ?_
      refine V_gn rfl rfl rfl hc1 rfl rfl rfl ?_
      refine V_gn rfl rfl rfl hc1 rfl rfl rfl ?_
      refine V_y (Y_pick_fe rfl hc1 rfl) rfl rfl rfl ?_
      exact V_end fun a ha => ⟨(), ha.sub ⟨(by rw [hc1]; rfl), trivial⟩, rfl⟩
  simp only [List.take, List.drop]
  rintro _ _ rfl
  refine V_y (Y_assign rfl) rfl rfl rfl ?_
  refine V_to (fun _ _ => rfl) ?_
  obtain rfl := hm
  refine C_ret ?_
  try simp only [↓inBlock_ret, ↓then_ret]
  exact retQ rfl (Res.one Tryd.results20 rfl) ⟨rfl, rfl⟩

set_option maxRecDepth 4000 in
set_option maxHeartbeats 4000000 in
theorem route_name_c (w : World) (s : ByteArray) {r : Bool} (hm : route_name s = some r) : Ret Tryd.prog 40 #[.string s] w fun v w' => v = .bool r ∧ w = w' := by
  unfold route_name at hm
  refine enter Tryd.func40 rfl Tryd.ntmps40 rfl ?_
  refine C_seq ?_
  refine C_region ?_
  refine V_y (Y_assign rfl) rfl rfl rfl ?_
  refine V_to (fun _ _ => rfl) ?_
  refine C_seq ?_
  refine C_seq ?_
  refine C_region ?_
  refine V_y (Y_move rfl) rfl rfl rfl ?_
  refine V_y (Y_lenStr rfl Tryd.underlying9 rfl) rfl rfl rfl ?_
  refine V_y (Y_move rfl) rfl rfl rfl ?_
  refine V_to (fun _ _ => rfl) ?_
  obtain ⟨o1, ho1, hm⟩ := Option.bind_eq_some_iff.1 hm
  refine C_cutG (ι := Int) (fun (s2 : Int) => [(0, .string s)]) (fun (s2 : Int) => fun w' => o1 = .fin s2 ∧ w = w') ?_ ?_
  · refine C_block ?_
    refine C_while ho1 (fun s8 a w' => ∃ i : Unit, Has ⟨41, [], none⟩ a ([(0, .string s), (6, .int .i64 (s.size : Int)), (7, .int .i64 s8)]) ∧ w = w') (fun a ha => ⟨(), ha.sub ⟨rfl, rfl, rfl, trivial⟩, rfl⟩) ?_
    rintro K s8 a _ ⟨_, ha30, rfl⟩ K16
    refine C_of ?_ ha30
    obtain ⟨x10, h11, h12⟩ := K16
    refine C_seq ?_
    refine C_region ?_
    refine V_y (Y_lss rfl rfl) rfl rfl rfl ?_
    refine V_to (fun _ _ => rfl) ?_
    refine C_seq ?_
    refine C_cond rfl (fun hc17 => ?_) (fun hc17 => ?_)
    · rw [if_pos hc17] at h11
      refine C_skip_to (fun _ _ => rfl) ?_
      refine C_seq ?_
      refine C_block ?_
      refine C_seq ?_
      refine C_region ?_
      refine V_y (Y_move rfl) rfl rfl rfl ?_
      refine V_y (Y_assign rfl) rfl rfl rfl ?_
      refine V_to (fun _ _ => rfl) ?_
      refine C_seq ?_
      refine C_region ?_
      refine V_y (Y_move rfl) rfl rfl rfl ?_
      refine V_y (Y_move rfl) rfl rfl rfl ?_
      obtain ⟨x18, hx18, h11⟩ := Option.bind_eq_some_iff.1 h11
      refine V_y (Y_indexS hx18 Tryd.underlying9 rfl rfl) rfl rfl rfl ?_
      refine V_y (Y_assign rfl) rfl rfl rfl ?_
      refine V_to (fun _ _ => rfl) ?_
      refine C_seq ?_
      refine C_region ?_
      refine V_y (Y_move rfl) rfl rfl rfl ?_
      refine V_y (Y_geq rfl rfl) rfl rfl rfl ?_
      refine V_y (Y_move rfl) rfl rfl rfl ?_
      refine V_cut 3 (fun _ : Unit => [(0, .string s), (4, .int .u8 (x18.toNat : Int)), (6, .int .i64 (s.size : Int)), (7, .int .i64 s8), (18, .bool ((decide ((97 : Int) ≤ (x18.toNat : Int))) && (decide ((x18.toNat : Int) ≤ 122))))]) (fun _ w' => w = w') ?_ ?_
      · simp only [List.take, List.drop]
        rcases Bool.eq_false_or_eq_true (decide ((97 : Int) ≤ (x18.toNat : Int))) with hc19 | hc19
        · refine V_ge rfl rfl rfl hc19 ?_
          refine V_y (Y_move rfl) rfl rfl rfl ?_
          refine V_ge rfl rfl rfl hc19 ?_
          refine V_y (Y_leq rfl rfl) rfl rfl rfl ?_
          refine V_y (Y_pick_te rfl hc19 rfl) rfl rfl rfl ?_
          exact V_end fun a ha => ⟨(), ha.sub ⟨rfl, rfl, rfl, rfl, (by rw [hc19]; rfl), trivial⟩, rfl⟩
        · refine V_gn rfl rfl rfl hc19 rfl rfl rfl ?_
          refine V_gn rfl rfl rfl hc19 rfl rfl rfl ?_
          refine V_y (Y_pick_fe rfl hc19 rfl) rfl rfl rfl ?_
          exact V_end fun a ha => ⟨(), ha.sub ⟨rfl, rfl, rfl, rfl, (by rw [hc19]; rfl), trivial⟩, rfl⟩
      simp only [List.take, List.drop]
      rintro _ _ rfl
      refine V_y (Y_not rfl) rfl rfl rfl ?_
      refine V_y (Y_move rfl) rfl rfl rfl ?_
      refine V_cut 8 (fun _ : Unit => [(0, .string s), (4, .int .u8 (x18.toNat : Int)), (6, .int .i64 (s.size : Int)), (7, .int .i64 s8), (28, .bool ((!((decide ((97 : Int) ≤ (x18.toNat : Int))) && (decide ((x18.toNat : Int) ≤ 122)))) && (!((decide ((48 : Int) ≤ (x18.toNat : Int))) && (decide ((x18.toNat : Int) ≤ 57))))))]) (fun _ w' => w = w') ?_ ?_
      · simp only [List.take, List.drop]
        rcases Bool.eq_false_or_eq_true (!((decide ((97 : Int) ≤ (x18.toNat : Int))) && (decide ((x18.toNat : Int) ≤ 122)))) with hc21 | hc21
        · refine V_ge rfl rfl rfl hc21 ?_
          refine V_y (Y_move rfl) rfl rfl rfl ?_
          refine V_ge rfl rfl rfl hc21 ?_
          refine V_y (Y_geq rfl rfl) rfl rfl rfl ?_
          refine V_ge rfl rfl rfl hc21 ?_
          refine V_y (Y_move rfl) rfl rfl rfl ?_
          refine V_cut 3 (fun _ : Unit => [(0, .string s), (4, .int .u8 (x18.toNat : Int)), (6, .int .i64 (s.size : Int)), (7, .int .i64 s8), (20, .bool (!((decide ((97 : Int) ≤ (x18.toNat : Int))) && (decide ((x18.toNat : Int) ≤ 122))))), (26, .bool ((decide ((48 : Int) ≤ (x18.toNat : Int))) && (decide ((x18.toNat : Int) ≤ 57))))]) (fun _ w' => w = w') ?_ ?_
          · simp only [List.take, List.drop]
            rcases Bool.eq_false_or_eq_true (decide ((48 : Int) ≤ (x18.toNat : Int))) with hc23 | hc23
            · refine V_ge rfl rfl rfl hc23 ?_
              refine V_y (Y_move rfl) rfl rfl rfl ?_
              refine V_ge rfl rfl rfl hc23 ?_
              refine V_y (Y_leq rfl rfl) rfl rfl rfl ?_
              refine V_ge rfl rfl rfl hc21 ?_
              refine V_y (Y_pick_te rfl hc23 rfl) rfl rfl rfl ?_
              exact V_end fun a ha => ⟨(), ha.sub ⟨rfl, rfl, rfl, rfl, rfl, (by rw [hc23]; rfl), trivial⟩, rfl⟩
            · refine V_gn rfl rfl rfl hc23 rfl rfl rfl ?_
              refine V_gn rfl rfl rfl hc23 rfl rfl rfl ?_
              refine V_ge rfl rfl rfl hc21 ?_
              refine V_y (Y_pick_fe rfl hc23 rfl) rfl rfl rfl ?_
              exact V_end fun a ha => ⟨(), ha.sub ⟨rfl, rfl, rfl, rfl, rfl, (by rw [hc23]; rfl), trivial⟩, rfl⟩
          simp only [List.take, List.drop]
          rintro _ _ rfl
          refine V_ge rfl rfl rfl hc21 ?_
          refine V_y (Y_not rfl) rfl rfl rfl ?_
          refine V_y (Y_pick_te rfl hc21 rfl) rfl rfl rfl ?_
          exact V_end fun a ha => ⟨(), ha.sub ⟨rfl, rfl, rfl, rfl, (by rw [hc21]; rfl), trivial⟩, rfl⟩
        · refine V_gn rfl rfl rfl hc21 rfl rfl rfl ?_
          refine V_gn rfl rfl rfl hc21 rfl rfl rfl ?_
          refine V_gn rfl rfl rfl hc21 rfl rfl rfl ?_
          refine V_gu rfl rfl rfl rfl rfl ?_
          refine V_gu rfl rfl rfl rfl rfl ?_
          refine V_gn rfl rfl rfl hc21 rfl rfl rfl ?_
          refine V_gn rfl rfl rfl hc21 rfl rfl rfl ?_
          refine V_y (Y_pick_fe rfl hc21 rfl) rfl rfl rfl ?_
          exact V_end fun a ha => ⟨(), ha.sub ⟨rfl, rfl, rfl, rfl, (by rw [hc21]; rfl), trivial⟩, rfl⟩
      simp only [List.take, List.drop]
      rintro _ _ rfl
      refine V_y (Y_move rfl) rfl rfl rfl ?_
      refine V_cut 3 (fun _ : Unit => [(0, .string s), (6, .int .i64 (s.size : Int)), (7, .int .i64 s8), (32, .bool (((!((decide ((97 : Int) ≤ (x18.toNat : Int))) && (decide ((x18.toNat : Int) ≤ 122)))) && (!((decide ((48 : Int) ≤ (x18.toNat : Int))) && (decide ((x18.toNat : Int) ≤ 57))))) && ((x18.toNat : Int) != 95)))]) (fun _ w' => w = w') ?_ ?_
      · simp only [List.take, List.drop]
        rcases Bool.eq_false_or_eq_true (((!((decide ((97 : Int) ≤ (x18.toNat : Int))) && (decide ((x18.toNat : Int) ≤ 122)))) && (!((decide ((48 : Int) ≤ (x18.toNat : Int))) && (decide ((x18.toNat : Int) ≤ 57)))))) with hc25 | hc25
        · refine V_ge rfl rfl rfl hc25 ?_
          refine V_y (Y_move rfl) rfl rfl rfl ?_
          refine V_ge rfl rfl rfl hc25 ?_
          refine V_y (Y_neq rfl rfl) rfl rfl rfl ?_
          refine V_y (Y_pick_te rfl hc25 rfl) rfl rfl rfl ?_
          exact V_end fun a ha => ⟨(), ha.sub ⟨rfl, rfl, rfl, (by rw [hc25]; rfl), trivial⟩, rfl⟩
        · refine V_gn rfl rfl rfl hc25 rfl rfl rfl ?_
          refine V_gn rfl rfl rfl hc25 rfl rfl rfl ?_
          refine V_y (Y_pick_fe rfl hc25 rfl) rfl rfl rfl ?_
          exact V_end fun a ha => ⟨(), ha.sub ⟨rfl, rfl, rfl, (by rw [hc25]; rfl), trivial⟩, rfl⟩
      simp only [List.take, List.drop]
      rintro _ _ rfl
      refine V_to (fun _ _ => rfl) ?_
      refine C_cond rfl (fun hc27 => ?_) (fun hc27 => ?_)
      · rw [if_pos hc27] at h11
        refine C_seq ?_
        refine C_region ?_
        refine V_y (Y_assign rfl) rfl rfl rfl ?_
        refine V_to (fun _ _ => rfl) ?_
        obtain rfl := Option.some.inj h11
        obtain rfl := (h12 : Lp.rt _ = _)
        rw [Lp.andThen_rt] at hm
        obtain rfl := Option.some.inj hm
        refine C_ret ?_
        try simp only [↓inBlock_ret, ↓then_ret]
        exact retQ rfl (Res.one Tryd.results40 rfl) ⟨rfl, rfl⟩
      · rw [if_neg (nt hc27)] at h11
        refine C_skip_to (fun _ _ => rfl) ?_
        refine C_region ?_
        refine V_y (Y_addI rfl rfl) rfl rfl rfl ?_
        refine V_y (Y_move rfl) rfl rfl rfl ?_
        obtain rfl := Option.some.inj h11
        refine V_end (fun a ha28 => ?_)
        exact ⟨w64 (s8 + 1), h12, ⟨(), ha28.sub ⟨rfl, rfl, rfl, trivial⟩, rfl⟩⟩
    · rw [if_neg (nt hc17)] at h11
      obtain rfl := Option.some.inj h11
      refine C_exit (fun a ha29 => ?_)
      exact ⟨s8, ha29.sub ⟨rfl, trivial⟩, ⟨h12.symm, rfl⟩⟩
  rintro s2 _ ⟨rfl, rfl⟩ a ha7
  rw [Lp.andThen_fin] at hm
  refine C_at (n := ⟨41, [], none⟩) (fun _ _ => rfl) ?_ ha7
  refine C_seq ?_
  refine C_region ?_
  refine V_y (Y_move rfl) rfl rfl rfl ?_
  refine V_y (Y_sneq rfl rfl) rfl rfl rfl ?_
  refine V_y (Y_move rfl) rfl rfl rfl ?_
  refine V_cut 4 (fun _ : Unit => [(40, .bool ((!(strEq s (⟨#[]⟩ : ByteArray))) && (decide ((s.size : Int) ≤ 20))))]) (fun _ w' => w = w') ?_ ?_
  · simp only [List.take, List.drop]
    rcases Bool.eq_false_or_eq_true (!(strEq s (⟨#[]⟩ : ByteArray))) with hc31 | hc31
    · refine V_ge rfl rfl rfl hc31 ?_
      refine V_y (Y_move rfl) rfl rfl rfl ?_
      refine V_ge rfl rfl rfl hc31 ?_
      refine V_y (Y_lenStr rfl Tryd.underlying9 rfl) rfl rfl rfl ?_
      refine V_ge rfl rfl rfl hc31 ?_
      refine V_y (Y_leq rfl rfl) rfl rfl rfl ?_
      refine V_y (Y_pick_te rfl hc31 rfl) rfl rfl rfl ?_
      exact V_end fun a ha => ⟨(), ha.sub ⟨(by rw [hc31]; rfl), trivial⟩, rfl⟩
    · refine V_gn rfl rfl rfl hc31 rfl rfl rfl ?_
      refine V_gn rfl rfl rfl hc31 rfl rfl rfl ?_
      refine V_gn rfl rfl rfl hc31 rfl rfl rfl ?_
      refine V_y (Y_pick_fe rfl hc31 rfl) rfl rfl rfl ?_
      exact V_end fun a ha => ⟨(), ha.sub ⟨(by rw [hc31]; rfl), trivial⟩, rfl⟩
  simp only [List.take, List.drop]
  rintro _ _ rfl
  refine V_y (Y_assign rfl) rfl rfl rfl ?_
  refine V_to (fun _ _ => rfl) ?_
  obtain rfl := Option.some.inj hm
  refine C_ret ?_
  try simp only [↓inBlock_ret, ↓then_ret]
  exact retQ rfl (Res.one Tryd.results40 rfl) ⟨rfl, rfl⟩

set_option maxRecDepth 4000 in
set_option maxHeartbeats 4000000 in
theorem route_checkSkills_c (w : World) {A : Nat → Prop} (hA : ∀ b, w.heap.size ≤ b → A b) (l : (List route_Skill)) (v_l : Value) (h_l : Sl A w v_l l) {r : Int} (hm : route_checkSkills l = some r) : Ret Tryd.prog 21 #[v_l] w fun v w' => v = .int .i64 r ∧ Kp Dw w w' := by
  unfold route_checkSkills at hm
  refine enter Tryd.func21 rfl Tryd.ntmps21 rfl ?_
  have hA0 := hA
  have hB := Nat.le_refl w.heap.size
  have hK : Tr Dw w.heap.size A w A w := Tr.refl (Dw := Dw) hA
  have hH : Hp w.heap.size A w [] := Hp.nil
  refine C_seq ?_
  refine C_region ?_
  refine V_y (Y_assign rfl) rfl rfl rfl ?_
  refine V_to (fun _ _ => rfl) ?_
  refine C_seq ?_
  refine C_seq ?_
  refine C_region ?_
  refine V_y (Y_move rfl) rfl rfl rfl ?_
  refine V_y (Y_lenSl h_l rfl Tryd.underlying34 rfl) rfl rfl rfl ?_
  refine V_y (Y_gtr rfl rfl) rfl rfl rfl ?_
  refine V_to (fun _ _ => rfl) ?_
  refine C_cond rfl (fun hc3 => ?_) (fun hc3 => ?_)
  · rw [if_pos hc3] at hm
    refine C_seq ?_
    refine C_region ?_
    refine V_y (Y_assign rfl) rfl rfl rfl ?_
    refine V_to (fun _ _ => rfl) ?_
    obtain rfl := Option.some.inj hm
    refine C_ret ?_
    try simp only [↓inBlock_ret, ↓then_ret]
    exact retQ rfl (Res.one Tryd.results21 rfl) ⟨rfl, hK.kp⟩
  · rw [if_neg (nt hc3)] at hm
    refine C_skip_to (fun _ _ => rfl) ?_
    refine C_seq ?_
    refine C_seq ?_
    refine C_region ?_
    refine V_y (Y_move rfl) rfl rfl rfl ?_
    refine V_y (Y_lenSl h_l rfl Tryd.underlying34 rfl) rfl rfl rfl ?_
    refine V_y (Y_move rfl) rfl rfl rfl ?_
    refine V_to (fun _ _ => rfl) ?_
    have hn25 := Sl.le h_l
    obtain ⟨o4, ho4, hm⟩ := Option.bind_eq_some_iff.1 hm
    refine C_cutG (ι := (Unit × (Nat → Prop))) (fun ⟨s5, A12⟩ => []) (fun ⟨s5, A12⟩ => fun w' => o4 = .fin s5 ∧ Hp w.heap.size A12 w' ([]) ∧ Tr Dw w.heap.size A w A12 w') ?_ ?_
    · refine C_block ?_
      refine C_range ho4 (fun k7 _ a w' => ∃ i : (Nat → Prop), Has ⟨40, [], none⟩ a ([(0, v_l), (8, v_l), (9, .int .i64 (l.length : Int)), (10, .int .i64 (k7 : Int))]) ∧ Hp w.heap.size i w' ([]) ∧ Tr Dw w.heap.size A w i w') (fun a ha => ⟨A, ha.sub ⟨rfl, rfl, rfl, rfl, trivial⟩, ⟨hH, Tr.refl (Dw := Dw) hA⟩⟩) ?_
      rintro K k7 _ a w15 ⟨A16, ha59, hH17, hr6⟩ hle21 K24 h23
      refine C_of ?_ ha59
      replace h_l := Sl.tr (Dw := Dw) h_l hr6
      replace hK := Tr.trans (Dw := Dw) hK hr6
      replace hB := Nat.le_trans hB hr6.ex.size
      replace hA := hr6.new
      replace hH : Hp w.heap.size A16 w15 ([]) := hH17
      refine C_seq (C_region (V_y (Y_lss rfl rfl) rfl rfl rfl (V_to (fun _ _ => rfl) ?_)))
      refine C_seq ?_
      refine C_cond rfl (fun hc26 => ?_) (fun hc26 => ?_)
      · have hlt22 := lt_of_dec hc26
        obtain ⟨x18, h19, h20⟩ := K24 hlt22
        refine C_skip_to (fun _ _ => rfl) ?_
        refine C_seq ?_
        refine C_block ?_
        refine C_seq ?_
        refine C_region ?_
        refine V_y (Y_move rfl) rfl rfl rfl ?_
        obtain ⟨x27, hx27, h19⟩ := Option.bind_eq_some_iff.1 h19
        refine V_indexAddr h_l hx27 Tryd.underlying34 Tryd.sizeOf62 rfl rfl rfl ?_
        intro b28 o29 h30
        obtain ⟨h31, _⟩ := El_route_Skill h30
        refine V_y (Y_loadA h31 Tryd.isAgg62 Tryd.sizeOf62 rfl) rfl rfl rfl ?_
        refine V_alloc Tryd.zeroValue62 rfl ?_
        intro b32 w33 h34
        refine V_y (Y_assign rfl) rfl rfl rfl ?_
        refine V_storeNew h34 Tryd.sizeOf62 rfl rfl rfl rfl (by exact (List.forall_mem_cons.2 ⟨rfl, (List.forall_mem_cons.2 ⟨rfl, (fun _ h => nomatch h)⟩)⟩)) ?_
        intro w35 h36
        have hk38 := h36.kp (Dw := Dw)
        have h37 : El (α := route_Skill) A16 w35 b32 0 x27 := h36.el hA ⟨[.string x27.name], _, rfl, rfl, rfl⟩
        have ht39 := Kp.tr (Dw := Dw) hk38 hA hB
        replace hH := Hp.kp (Dw := Dw) hH hk38
        replace h_l := Sl.tr (Dw := Dw) h_l ht39
        replace h30 := El.tr (Dw := Dw) h30 ht39
        replace hK := Tr.trans (Dw := Dw) hK ht39
        replace hr6 := Tr.trans (Dw := Dw) hr6 ht39
        replace hB := Nat.le_trans hB ht39.ex.size
        replace hA := ht39.new
        refine V_to (fun _ _ => rfl) ?_
        refine C_block ?_
        refine C_seq ?_
        refine C_region ?_
        have h40 := El_route_Skill_0 h37
        refine V_y (Y_fieldAddr Tryd.underlying62 rfl Tryd.sizeOf9 (by decide) rfl) rfl rfl rfl ?_
        refine V_y (Y_load (El.str h40) Tryd.isAgg9 rfl) rfl rfl rfl ?_
        obtain ⟨x41, hx41, h19⟩ := Option.bind_eq_some_iff.1 h19
        refine V_call Tryd.call40 rfl rfl rfl rfl (route_name_c w35 x27.name hx41) ?_
        rintro _ _ ⟨rfl, rfl⟩
        refine V_y (Y_not rfl) rfl rfl rfl ?_
        refine V_y (Y_assign rfl) rfl rfl rfl ?_
        refine V_to (fun _ _ => rfl) ?_
        refine C_cond rfl (fun hc42 => ?_) (fun hc42 => ?_)
        · rw [if_pos hc42] at h19
          refine C_seq ?_
          refine C_region ?_
          refine V_y (Y_assign rfl) rfl rfl rfl ?_
          refine V_to (fun _ _ => rfl) ?_
          obtain rfl := Option.some.inj h19
          obtain rfl := (h20 : Lp.rt _ = _)
          rw [Lp.andThen_rt] at hm
          obtain rfl := Option.some.inj hm
          refine C_ret ?_
          try simp only [↓inBlock_ret, ↓then_ret]
          exact retQ rfl (Res.one Tryd.results21 rfl) ⟨rfl, hK.kp⟩
        · rw [if_neg (nt hc42)] at h19
          refine C_seq ?_
          refine C_region_q (Dw := Dw) Tryd_mixed (by kernel_rfl) ?_
          refine VQ_y (fun w' hw' => Y_move rfl) rfl rfl rfl ?_
          refine VQ_y (fun w' hw' => Y_gtr rfl rfl) rfl rfl rfl ?_
          refine VQ_y (fun w' hw' => Y_move rfl) rfl rfl rfl ?_
          obtain ⟨s44, hs44, h19⟩ := Option.bind_eq_some_iff.1 h19
          refine VQ_cut 10 (fun _ : Unit => [(0, v_l), (4, .pointer (some ⟨b32, 0, none⟩)), (8, v_l), (9, .int .i64 (l.length : Int)), (10, .int .i64 (k7 : Int)), (33, .bool s44)]) (fun _ => True) ?_ ?_
          · simp only [List.take, List.drop]
            rcases Bool.eq_false_or_eq_true (decide ((0 : Int) < (k7 : Int))) with hc43 | hc43
            · rw [if_pos hc43] at hs44
              refine VQ_ge rfl rfl rfl hc43 ?_
              have h45 := El_route_Skill_0 h37
              refine VQ_y (fun w' hw' => Y_fieldAddr Tryd.underlying62 rfl Tryd.sizeOf9 (by decide) rfl) rfl rfl rfl ?_
              refine VQ_ge rfl rfl rfl hc43 ?_
              refine VQ_y (fun w' hw' => Y_load (El.str (El.kp (Dw := Dw) h45 hw')) Tryd.isAgg9 rfl) rfl rfl rfl ?_
              refine VQ_ge rfl rfl rfl hc43 ?_
              refine VQ_y (fun w' hw' => Y_move rfl) rfl rfl rfl ?_
              refine VQ_ge rfl rfl rfl hc43 ?_
              refine VQ_y (fun w' hw' => Y_move rfl) rfl rfl rfl ?_
              refine VQ_ge rfl rfl rfl hc43 ?_
              refine VQ_y (fun w' hw' => Y_subI rfl rfl) rfl rfl rfl ?_
              refine VQ_ge rfl rfl rfl hc43 ?_
              obtain ⟨x46, hx46, hs44⟩ := Option.bind_eq_some_iff.1 hs44
              refine VQ_indexAddr h_l hx46 Tryd.underlying34 Tryd.sizeOf62 rfl rfl rfl ?_
              intro b47 o48 h49
              refine VQ_ge rfl rfl rfl hc43 ?_
              have h50 := El_route_Skill_0 h49
              refine VQ_y (fun w' hw' => Y_fieldAddr Tryd.underlying62 rfl Tryd.sizeOf9 (by decide) rfl) rfl rfl rfl ?_
              refine VQ_ge rfl rfl rfl hc43 ?_
              refine VQ_y (fun w' hw' => Y_load (El.str (El.kp (Dw := Dw) h50 hw')) Tryd.isAgg9 rfl) rfl rfl rfl ?_
              refine VQ_ge rfl rfl rfl hc43 ?_
              refine VQ_y (fun w' hw' => Y_sleq rfl rfl) rfl rfl rfl ?_
              refine VQ_y (fun _ _ => Y_pick_te rfl hc43 rfl) rfl rfl rfl ?_
              obtain rfl := Option.some.inj hs44
              exact VQ_end fun a ha => ⟨(), ha.sub ⟨rfl, rfl, rfl, rfl, rfl, rfl, trivial⟩, trivial⟩
            · rw [if_neg (nt hc43)] at hs44
              refine VQ_gn rfl rfl rfl hc43 rfl rfl rfl ?_
              refine VQ_gn rfl rfl rfl hc43 rfl rfl rfl ?_
              refine VQ_gn rfl rfl rfl hc43 rfl rfl rfl ?_
              refine VQ_gn rfl rfl rfl hc43 rfl rfl rfl ?_
              refine VQ_gn rfl rfl rfl hc43 rfl rfl rfl ?_
              refine VQ_gn rfl rfl rfl hc43 rfl rfl rfl ?_
              refine VQ_gn rfl rfl rfl hc43 rfl rfl rfl ?_
              refine VQ_gn rfl rfl rfl hc43 rfl rfl rfl ?_
              refine VQ_gn rfl rfl rfl hc43 rfl rfl rfl ?_
              refine VQ_y (fun _ _ => Y_pick_fe rfl hc43 rfl) rfl rfl rfl ?_
              obtain rfl := Option.some.inj hs44
              exact VQ_end fun a ha => ⟨(), ha.sub ⟨rfl, rfl, rfl, rfl, rfl, rfl, trivial⟩, trivial⟩
          simp only [List.take, List.drop]
          rintro _ _
          refine VQ_y (fun w' hw' => Y_assign rfl) rfl rfl rfl ?_
          refine VQ_to (fun _ _ => rfl) (fun w51 hk52 => ?_)
          have ht53 := Kp.tr (Dw := Dw) hk52 hA hB
          replace hH := Hp.kp (Dw := Dw) hH hk52
          replace h_l := Sl.tr (Dw := Dw) h_l ht53
          replace h37 := El.tr (Dw := Dw) h37 ht53
          replace hK := Tr.trans (Dw := Dw) hK ht53
          replace hr6 := Tr.trans (Dw := Dw) hr6 ht53
          replace hB := Nat.le_trans hB ht53.ex.size
          replace hA := ht53.new
          refine C_cond rfl (fun hc54 => ?_) (fun hc54 => ?_)
          · rw [if_pos hc54] at h19
            refine C_seq ?_
            refine C_region ?_
            refine V_y (Y_assign rfl) rfl rfl rfl ?_
            refine V_to (fun _ _ => rfl) ?_
            obtain rfl := Option.some.inj h19
            obtain rfl := (h20 : Lp.rt _ = _)
            rw [Lp.andThen_rt] at hm
            obtain rfl := Option.some.inj hm
            refine C_ret ?_
            try simp only [↓inBlock_ret, ↓then_ret]
            exact retQ rfl (Res.one Tryd.results21 rfl) ⟨rfl, hK.kp⟩
          · rw [if_neg (nt hc54)] at h19
            refine C_seq ?_
            refine C_region ?_
            have h55 := El_route_Skill_1 h37
            refine V_y (Y_fieldAddr Tryd.underlying62 rfl Tryd.sizeOf3 (by decide) rfl) rfl rfl rfl ?_
            refine V_y (Y_load (El.int h55) Tryd.isAgg3 rfl) rfl rfl rfl ?_
            refine V_call Tryd.call20 rfl rfl rfl rfl (route_within_c w51 x27.rank 1 9) ?_
            rintro _ _ ⟨rfl, rfl⟩
            refine V_y (Y_not rfl) rfl rfl rfl ?_
            refine V_y (Y_assign rfl) rfl rfl rfl ?_
            refine V_to (fun _ _ => rfl) ?_
            refine C_cond rfl (fun hc56 => ?_) (fun hc56 => ?_)
            · rw [if_pos hc56] at h19
              refine C_seq ?_
              refine C_region ?_
              refine V_y (Y_assign rfl) rfl rfl rfl ?_
              refine V_to (fun _ _ => rfl) ?_
              obtain rfl := Option.some.inj h19
              obtain rfl := (h20 : Lp.rt _ = _)
              rw [Lp.andThen_rt] at hm
              obtain rfl := Option.some.inj hm
              refine C_ret ?_
              try simp only [↓inBlock_ret, ↓then_ret]
              exact retQ rfl (Res.one Tryd.results21 rfl) ⟨rfl, hK.kp⟩
            · rw [if_neg (nt hc56)] at h19
              refine C_skip_to (fun _ _ => rfl) ?_
              refine C_region ?_
              refine V_y (Y_addI rfl rfl) rfl rfl rfl ?_
              refine V_y (Y_move rfl) rfl rfl rfl ?_
              obtain rfl := Option.some.inj h19
              refine V_end (fun a ha57 => ?_)
              exact ⟨(), hlt22, h20, ⟨A16, ha57.sub ⟨rfl, rfl, rfl, (congrArg (fun z => some (Value.int .i64 z)) (w64_succ hlt22 hn25)), trivial⟩, ⟨hH, hr6⟩⟩⟩
      · refine C_exit (fun a ha58 => ?_)
        exact ⟨((), A16), ha58.sub trivial, ⟨(h23 (eq_of_dec hle21 hc26)).symm, hH, hr6⟩⟩
    rintro ⟨s5, A12⟩ w9 ⟨rfl, hH13, hk10⟩ a ha11
    rw [Lp.andThen_fin] at hm
    replace hK := Tr.trans (Dw := Dw) hK hk10
    replace hB := Nat.le_trans hB hk10.ex.size
    replace hA := hk10.new
    replace hH : Hp w.heap.size A12 w9 ([]) := hH13
    refine C_at (n := ⟨40, [], none⟩) (fun _ _ => rfl) ?_ ha11
    refine C_seq ?_
    refine C_region ?_
    refine V_y (Y_assign rfl) rfl rfl rfl ?_
    refine V_to (fun _ _ => rfl) ?_
    obtain rfl := Option.some.inj hm
    refine C_ret ?_
    try simp only [↓inBlock_ret, ↓then_ret]
    exact retQ rfl (Res.one Tryd.results21 rfl) ⟨rfl, hK.kp⟩

set_option maxRecDepth 4000 in
set_option maxHeartbeats 4000000 in
theorem route_CheckPeople_c (w : World) {A : Nat → Prop} (hA : ∀ b, w.heap.size ≤ b → A b) (l : (List route_Person)) (v_l : Value) (h_l : Sl A w v_l l) {r : Int} (hm : route_CheckPeople l = some r) : Ret Tryd.prog 8 #[v_l] w fun v w' => v = .int .i64 r ∧ Kp Dw w w' := by
  unfold route_CheckPeople at hm
  refine enter Tryd.func8 rfl Tryd.ntmps8 rfl ?_
  have hA0 := hA
  have hB := Nat.le_refl w.heap.size
  have hK : Tr Dw w.heap.size A w A w := Tr.refl (Dw := Dw) hA
  have hH : Hp w.heap.size A w [] := Hp.nil
  refine C_seq ?_
  refine C_region ?_
  refine V_y (Y_assign rfl) rfl rfl rfl ?_
  refine V_to (fun _ _ => rfl) ?_
  refine C_seq ?_
  refine C_seq ?_
  refine C_region ?_
  refine V_y (Y_move rfl) rfl rfl rfl ?_
  refine V_y (Y_lenSl h_l rfl Tryd.underlying22 rfl) rfl rfl rfl ?_
  refine V_y (Y_gtr rfl rfl) rfl rfl rfl ?_
  refine V_to (fun _ _ => rfl) ?_
  refine C_cond rfl (fun hc3 => ?_) (fun hc3 => ?_)
  · rw [if_pos hc3] at hm
    refine C_seq ?_
    refine C_region ?_
    refine V_y (Y_assign rfl) rfl rfl rfl ?_
    refine V_to (fun _ _ => rfl) ?_
    obtain rfl := Option.some.inj hm
    refine C_ret ?_
    try simp only [↓inBlock_ret, ↓then_ret]
    exact retQ rfl (Res.one Tryd.results8 rfl) ⟨rfl, hK.kp⟩
  · rw [if_neg (nt hc3)] at hm
    refine C_skip_to (fun _ _ => rfl) ?_
    refine C_seq ?_
    refine C_seq ?_
    refine C_region ?_
    refine V_y (Y_move rfl) rfl rfl rfl ?_
    refine V_y (Y_lenSl h_l rfl Tryd.underlying22 rfl) rfl rfl rfl ?_
    refine V_y (Y_move rfl) rfl rfl rfl ?_
    refine V_to (fun _ _ => rfl) ?_
    have hn25 := Sl.le h_l
    obtain ⟨o4, ho4, hm⟩ := Option.bind_eq_some_iff.1 hm
    refine C_cutG (ι := (Unit × (Nat → Prop))) (fun ⟨s5, A12⟩ => []) (fun ⟨s5, A12⟩ => fun w' => o4 = .fin s5 ∧ Hp w.heap.size A12 w' ([]) ∧ Tr Dw w.heap.size A w A12 w') ?_ ?_
    · refine C_block ?_
      refine C_range ho4 (fun k7 _ a w' => ∃ i : (Nat → Prop), Has ⟨53, [], none⟩ a ([(0, v_l), (9, v_l), (10, .int .i64 (l.length : Int)), (11, .int .i64 (k7 : Int))]) ∧ Hp w.heap.size i w' ([]) ∧ Tr Dw w.heap.size A w i w') (fun a ha => ⟨A, ha.sub ⟨rfl, rfl, rfl, rfl, trivial⟩, ⟨hH, Tr.refl (Dw := Dw) hA⟩⟩) ?_
      rintro K k7 _ a w15 ⟨A16, ha75, hH17, hr6⟩ hle21 K24 h23
      refine C_of ?_ ha75
      replace h_l := Sl.tr (Dw := Dw) h_l hr6
      replace hK := Tr.trans (Dw := Dw) hK hr6
      replace hB := Nat.le_trans hB hr6.ex.size
      replace hA := hr6.new
      replace hH : Hp w.heap.size A16 w15 ([]) := hH17
      refine C_seq (C_region (V_y (Y_lss rfl rfl) rfl rfl rfl (V_to (fun _ _ => rfl) ?_)))
      refine C_seq ?_
      refine C_cond rfl (fun hc26 => ?_) (fun hc26 => ?_)
      · have hlt22 := lt_of_dec hc26
        obtain ⟨x18, h19, h20⟩ := K24 hlt22
        refine C_skip_to (fun _ _ => rfl) ?_
        refine C_seq ?_
        refine C_block ?_
        refine C_seq ?_
        refine C_region ?_
        refine V_y (Y_move rfl) rfl rfl rfl ?_
        obtain ⟨x27, hx27, h19⟩ := Option.bind_eq_some_iff.1 h19
        refine V_indexAddr h_l hx27 Tryd.underlying22 Tryd.sizeOf43 rfl rfl rfl ?_
        intro b28 o29 h30
        obtain ⟨v31, h33, h32⟩ := El_route_Person h30
        refine V_y (Y_loadA h33 Tryd.isAgg43 Tryd.sizeOf43 rfl) rfl rfl rfl ?_
        refine V_alloc Tryd.zeroValue43 rfl ?_
        intro b34 w35 h36
        refine V_y (Y_assign rfl) rfl rfl rfl ?_
        have h41 : (v31).oneCell' = true := by obtain ⟨_, _, e, _⟩ := Sl.form h32; rw [e]; rfl
        refine V_storeNew h36 Tryd.sizeOf43 rfl rfl rfl rfl (by exact (List.forall_mem_cons.2 ⟨rfl, (List.forall_mem_cons.2 ⟨rfl, (List.forall_mem_cons.2 ⟨rfl, (List.forall_mem_cons.2 ⟨h41, (fun _ h => nomatch h)⟩)⟩)⟩)⟩)) ?_
        intro w37 h38
        have hk43 := h38.kp (Dw := Dw)
        have h42 : El (α := route_Person) A16 w37 b34 0 x27 := h38.el hA ⟨[.int .i64 x27.no], _, rfl, rfl, ⟨[.int .i64 x27.capacity], _, rfl, rfl, ⟨[.int .i64 x27.calendar], _, rfl, rfl, ⟨_, rfl, h32⟩⟩⟩⟩
        have ht44 := Kp.tr (Dw := Dw) hk43 hA hB
        replace hH := Hp.kp (Dw := Dw) hH hk43
        replace h_l := Sl.tr (Dw := Dw) h_l ht44
        replace h30 := El.tr (Dw := Dw) h30 ht44
        replace h32 := Sl.tr (Dw := Dw) h32 ht44
        replace hK := Tr.trans (Dw := Dw) hK ht44
        replace hr6 := Tr.trans (Dw := Dw) hr6 ht44
        replace hB := Nat.le_trans hB ht44.ex.size
        replace hA := ht44.new
        refine V_to (fun _ _ => rfl) ?_
        refine C_seq ?_
        refine C_block ?_
        refine C_seq ?_
        refine C_region ?_
        have h45 := El_route_Person_0 h42
        refine V_y (Y_fieldAddr Tryd.underlying43 rfl Tryd.sizeOf3 (by decide) rfl) rfl rfl rfl ?_
        refine V_y (Y_load (El.int h45) Tryd.isAgg3 rfl) rfl rfl rfl ?_
        refine V_call Tryd.call20 rfl rfl rfl rfl (route_within_c w37 x27.no 1 40) ?_
        rintro _ _ ⟨rfl, rfl⟩
        refine V_y (Y_not rfl) rfl rfl rfl ?_
        refine V_y (Y_assign rfl) rfl rfl rfl ?_
        refine V_to (fun _ _ => rfl) ?_
        refine C_cond rfl (fun hc46 => ?_) (fun hc46 => ?_)
        · rw [if_pos hc46] at h19
          refine C_seq ?_
          refine C_region ?_
          refine V_y (Y_assign rfl) rfl rfl rfl ?_
          refine V_to (fun _ _ => rfl) ?_
          obtain rfl := Option.some.inj h19
          obtain rfl := (h20 : Lp.rt _ = _)
          rw [Lp.andThen_rt] at hm
          obtain rfl := Option.some.inj hm
          refine C_ret ?_
          try simp only [↓inBlock_ret, ↓then_ret]
          exact retQ rfl (Res.one Tryd.results8 rfl) ⟨rfl, hK.kp⟩
        · rw [if_neg (nt hc46)] at h19
          refine C_seq ?_
          refine C_region_q (Dw := Dw) Tryd_mixed (by kernel_rfl) ?_
          refine VQ_y (fun w' hw' => Y_move rfl) rfl rfl rfl ?_
          refine VQ_y (fun w' hw' => Y_gtr rfl rfl) rfl rfl rfl ?_
          refine VQ_y (fun w' hw' => Y_move rfl) rfl rfl rfl ?_
          obtain ⟨s48, hs48, h19⟩ := Option.bind_eq_some_iff.1 h19
          refine VQ_cut 10 (fun _ : Unit => [(0, v_l), (4, .pointer (some ⟨b34, 0, none⟩)), (9, v_l), (10, .int .i64 (l.length : Int)), (11, .int .i64 (k7 : Int)), (34, .bool s48)]) (fun _ => True) ?_ ?_
          · simp only [List.take, List.drop]
            rcases Bool.eq_false_or_eq_true (decide ((0 : Int) < (k7 : Int))) with hc47 | hc47
            · rw [if_pos hc47] at hs48
              refine VQ_ge rfl rfl rfl hc47 ?_
              have h49 := El_route_Person_0 h42
              refine VQ_y (fun w' hw' => Y_fieldAddr Tryd.underlying43 rfl Tryd.sizeOf3 (by decide) rfl) rfl rfl rfl ?_
              refine VQ_ge rfl rfl rfl hc47 ?_
              refine VQ_y (fun w' hw' => Y_load (El.int (El.kp (Dw := Dw) h49 hw')) Tryd.isAgg3 rfl) rfl rfl rfl ?_
              refine VQ_ge rfl rfl rfl hc47 ?_
              refine VQ_y (fun w' hw' => Y_move rfl) rfl rfl rfl ?_
              refine VQ_ge rfl rfl rfl hc47 ?_
              refine VQ_y (fun w' hw' => Y_move rfl) rfl rfl rfl ?_
              refine VQ_ge rfl rfl rfl hc47 ?_
              refine VQ_y (fun w' hw' => Y_subI rfl rfl) rfl rfl rfl ?_
              refine VQ_ge rfl rfl rfl hc47 ?_
              obtain ⟨x50, hx50, hs48⟩ := Option.bind_eq_some_iff.1 hs48
              refine VQ_indexAddr h_l hx50 Tryd.underlying22 Tryd.sizeOf43 rfl rfl rfl ?_
              intro b51 o52 h53
              refine VQ_ge rfl rfl rfl hc47 ?_
              have h54 := El_route_Person_0 h53
              refine VQ_y (fun w' hw' => Y_fieldAddr Tryd.underlying43 rfl Tryd.sizeOf3 (by decide) rfl) rfl rfl rfl ?_
              refine VQ_ge rfl rfl rfl hc47 ?_
              refine VQ_y (fun w' hw' => Y_load (El.int (El.kp (Dw := Dw) h54 hw')) Tryd.isAgg3 rfl) rfl rfl rfl ?_
              refine VQ_ge rfl rfl rfl hc47 ?_
              refine VQ_y (fun w' hw' => Y_leq rfl rfl) rfl rfl rfl ?_
              refine VQ_y (fun _ _ => Y_pick_te rfl hc47 rfl) rfl rfl rfl ?_
              obtain rfl := Option.some.inj hs48
              exact VQ_end fun a ha => ⟨(), ha.sub ⟨rfl, rfl, rfl, rfl, rfl, rfl, trivial⟩, trivial⟩
            · rw [if_neg (nt hc47)] at hs48
              refine VQ_gn rfl rfl rfl hc47 rfl rfl rfl ?_
              refine VQ_gn rfl rfl rfl hc47 rfl rfl rfl ?_
              refine VQ_gn rfl rfl rfl hc47 rfl rfl rfl ?_
              refine VQ_gn rfl rfl rfl hc47 rfl rfl rfl ?_
              refine VQ_gn rfl rfl rfl hc47 rfl rfl rfl ?_
              refine VQ_gn rfl rfl rfl hc47 rfl rfl rfl ?_
              refine VQ_gn rfl rfl rfl hc47 rfl rfl rfl ?_
              refine VQ_gn rfl rfl rfl hc47 rfl rfl rfl ?_
              refine VQ_gn rfl rfl rfl hc47 rfl rfl rfl ?_
              refine VQ_y (fun _ _ => Y_pick_fe rfl hc47 rfl) rfl rfl rfl ?_
              obtain rfl := Option.some.inj hs48
              exact VQ_end fun a ha => ⟨(), ha.sub ⟨rfl, rfl, rfl, rfl, rfl, rfl, trivial⟩, trivial⟩
          simp only [List.take, List.drop]
          rintro _ _
          refine VQ_y (fun w' hw' => Y_assign rfl) rfl rfl rfl ?_
          refine VQ_to (fun _ _ => rfl) (fun w55 hk56 => ?_)
          have ht57 := Kp.tr (Dw := Dw) hk56 hA hB
          replace hH := Hp.kp (Dw := Dw) hH hk56
          replace h_l := Sl.tr (Dw := Dw) h_l ht57
          replace h42 := El.tr (Dw := Dw) h42 ht57
          replace hK := Tr.trans (Dw := Dw) hK ht57
          replace hr6 := Tr.trans (Dw := Dw) hr6 ht57
          replace hB := Nat.le_trans hB ht57.ex.size
          replace hA := ht57.new
          refine C_cond rfl (fun hc58 => ?_) (fun hc58 => ?_)
          · rw [if_pos hc58] at h19
            refine C_seq ?_
            refine C_region ?_
            refine V_y (Y_assign rfl) rfl rfl rfl ?_
            refine V_to (fun _ _ => rfl) ?_
            obtain rfl := Option.some.inj h19
            obtain rfl := (h20 : Lp.rt _ = _)
            rw [Lp.andThen_rt] at hm
            obtain rfl := Option.some.inj hm
            refine C_ret ?_
            try simp only [↓inBlock_ret, ↓then_ret]
            exact retQ rfl (Res.one Tryd.results8 rfl) ⟨rfl, hK.kp⟩
          · rw [if_neg (nt hc58)] at h19
            refine C_seq ?_
            refine C_region ?_
            have h59 := El_route_Person_1 h42
            refine V_y (Y_fieldAddr Tryd.underlying43 rfl Tryd.sizeOf3 (by decide) rfl) rfl rfl rfl ?_
            refine V_y (Y_load (El.int h59) Tryd.isAgg3 rfl) rfl rfl rfl ?_
            refine V_call Tryd.call20 rfl rfl rfl rfl (route_within_c w55 x27.capacity 0 100) ?_
            rintro _ _ ⟨rfl, rfl⟩
            refine V_y (Y_not rfl) rfl rfl rfl ?_
            refine V_y (Y_move rfl) rfl rfl rfl ?_
            refine V_cut 5 (fun _ : Unit => [(0, v_l), (4, .pointer (some ⟨b34, 0, none⟩)), (9, v_l), (10, .int .i64 (l.length : Int)), (11, .int .i64 (k7 : Int)), (45, .bool ((!(route_within x27.capacity 0 100)) || (!(route_within x27.calendar 0 19))))]) (fun _ w' => w55 = w') ?_ ?_
            · simp only [List.take, List.drop]
              rcases Bool.eq_false_or_eq_true (!(route_within x27.capacity 0 100)) with hc60 | hc60
              · refine V_gn rfl rfl rfl hc60 rfl rfl rfl ?_
                refine V_gn rfl rfl rfl hc60 rfl rfl rfl ?_
                refine V_gn rfl rfl rfl hc60 rfl rfl rfl ?_
                refine V_gn rfl rfl rfl hc60 rfl rfl rfl ?_
                refine V_y (Y_pick_te rfl hc60 rfl) rfl rfl rfl ?_
                exact V_end fun a ha => ⟨(), ha.sub ⟨rfl, rfl, rfl, rfl, rfl, (by rw [hc60]; rfl), trivial⟩, rfl⟩
              · refine V_ge rfl rfl rfl hc60 ?_
                have h62 := El_route_Person_2 h42
                refine V_y (Y_fieldAddr Tryd.underlying43 rfl Tryd.sizeOf3 (by decide) rfl) rfl rfl rfl ?_
                refine V_ge rfl rfl rfl hc60 ?_
                refine V_y (Y_load (El.int h62) Tryd.isAgg3 rfl) rfl rfl rfl ?_
                refine V_ge rfl rfl rfl hc60 ?_
                refine V_call Tryd.call20 rfl rfl rfl rfl (route_within_c w55 x27.calendar 0 19) ?_
                rintro _ _ ⟨rfl, rfl⟩
                refine V_ge rfl rfl rfl hc60 ?_
                refine V_y (Y_not rfl) rfl rfl rfl ?_
                refine V_y (Y_pick_fe rfl hc60 rfl) rfl rfl rfl ?_
                exact V_end fun a ha => ⟨(), ha.sub ⟨rfl, rfl, rfl, rfl, rfl, (by rw [hc60]; rfl), trivial⟩, rfl⟩
            simp only [List.take, List.drop]
            rintro _ _ rfl
            refine V_y (Y_assign rfl) rfl rfl rfl ?_
            refine V_to (fun _ _ => rfl) ?_
            refine C_cond rfl (fun hc63 => ?_) (fun hc63 => ?_)
            · rw [if_pos hc63] at h19
              refine C_seq ?_
              refine C_region ?_
              refine V_y (Y_assign rfl) rfl rfl rfl ?_
              refine V_to (fun _ _ => rfl) ?_
              obtain rfl := Option.some.inj h19
              obtain rfl := (h20 : Lp.rt _ = _)
              rw [Lp.andThen_rt] at hm
              obtain rfl := Option.some.inj hm
              refine C_ret ?_
              try simp only [↓inBlock_ret, ↓then_ret]
              exact retQ rfl (Res.one Tryd.results8 rfl) ⟨rfl, hK.kp⟩
            · rw [if_neg (nt hc63)] at h19
              refine C_skip_to (fun _ _ => rfl) ?_
              refine C_seq ?_
              refine C_region ?_
              have h64 := El_route_Person_3 h42
              refine V_y (Y_fieldAddr Tryd.underlying43 rfl Tryd.sizeOf34 (by decide) rfl) rfl rfl rfl ?_
              obtain ⟨v65, h66, h67⟩ := El.list h64
              refine V_y (Y_load h66 Tryd.isAgg34 rfl) rfl rfl rfl ?_
              obtain ⟨x68, hx68, h19⟩ := Option.bind_eq_some_iff.1 h19
              refine V_call Tryd.call21 rfl rfl rfl rfl (route_checkSkills_c (Dw := Dw) w55 hA x27.skills v65 h67 hx68) ?_
              rintro _ w69 ⟨rfl, hk70⟩
              have ht71 := Kp.tr (Dw := Dw) hk70 hA hB
              replace hH := Hp.kp (Dw := Dw) hH hk70
              replace h_l := Sl.tr (Dw := Dw) h_l ht71
              replace h42 := El.tr (Dw := Dw) h42 ht71
              replace h64 := El.tr (Dw := Dw) h64 ht71
              replace h67 := Sl.tr (Dw := Dw) h67 ht71
              replace hK := Tr.trans (Dw := Dw) hK ht71
              replace hr6 := Tr.trans (Dw := Dw) hr6 ht71
              replace hB := Nat.le_trans hB ht71.ex.size
              replace hA := ht71.new
              refine V_y (Y_assign rfl) rfl rfl rfl ?_
              refine V_to (fun _ _ => rfl) ?_
              refine C_seq ?_
              refine C_region ?_
              refine V_y (Y_move rfl) rfl rfl rfl ?_
              refine V_y (Y_neq rfl rfl) rfl rfl rfl ?_
              refine V_to (fun _ _ => rfl) ?_
              refine C_cond rfl (fun hc72 => ?_) (fun hc72 => ?_)
              · rw [if_pos hc72] at h19
                refine C_seq ?_
                refine C_region ?_
                refine V_y (Y_move rfl) rfl rfl rfl ?_
                refine V_y (Y_assign rfl) rfl rfl rfl ?_
                refine V_to (fun _ _ => rfl) ?_
                obtain rfl := Option.some.inj h19
                obtain rfl := (h20 : Lp.rt _ = _)
                rw [Lp.andThen_rt] at hm
                obtain rfl := Option.some.inj hm
                refine C_ret ?_
                try simp only [↓inBlock_ret, ↓then_ret]
                exact retQ rfl (Res.one Tryd.results8 rfl) ⟨rfl, hK.kp⟩
              · rw [if_neg (nt hc72)] at h19
                refine C_skip_to (fun _ _ => rfl) ?_
                refine C_region ?_
                refine V_y (Y_addI rfl rfl) rfl rfl rfl ?_
                refine V_y (Y_move rfl) rfl rfl rfl ?_
                obtain rfl := Option.some.inj h19
                refine V_end (fun a ha73 => ?_)
                exact ⟨(), hlt22, h20, ⟨A16, ha73.sub ⟨rfl, rfl, rfl, (congrArg (fun z => some (Value.int .i64 z)) (w64_succ hlt22 hn25)), trivial⟩, ⟨hH, hr6⟩⟩⟩
      · refine C_exit (fun a ha74 => ?_)
        exact ⟨((), A16), ha74.sub trivial, ⟨(h23 (eq_of_dec hle21 hc26)).symm, hH, hr6⟩⟩
    rintro ⟨s5, A12⟩ w9 ⟨rfl, hH13, hk10⟩ a ha11
    rw [Lp.andThen_fin] at hm
    replace hK := Tr.trans (Dw := Dw) hK hk10
    replace hB := Nat.le_trans hB hk10.ex.size
    replace hA := hk10.new
    replace hH : Hp w.heap.size A12 w9 ([]) := hH13
    refine C_at (n := ⟨53, [], none⟩) (fun _ _ => rfl) ?_ ha11
    refine C_seq ?_
    refine C_region ?_
    refine V_y (Y_assign rfl) rfl rfl rfl ?_
    refine V_to (fun _ _ => rfl) ?_
    obtain rfl := Option.some.inj hm
    refine C_ret ?_
    try simp only [↓inBlock_ret, ↓then_ret]
    exact retQ rfl (Res.one Tryd.results8 rfl) ⟨rfl, hK.kp⟩

set_option maxRecDepth 4000 in
set_option maxHeartbeats 4000000 in
theorem slices_IndexFunc_Lroute_Work_route_Work_c (w : World) {A : Nat → Prop} (hA : ∀ b, w.heap.size ≤ b → A b) (s : (List route_Work)) (v_s : Value) (h_s : Sl A w v_s s) (f : route_Work → Option Bool) (f_f : FuncId) (f_a f_c : Array Value) (f_call : ∀ (args : Array Value) (w : World), (callFunc f_f args).run Tryd.prog w = .ok (.enter f_f args) w) (f_spec : ∀ (w1 : World) (A1 : Nat → Prop), Tr Dw w.heap.size A w A1 w1 → (∀ b, w1.heap.size ≤ b → A1 b) → ∀ (y0 : route_Work) (v1 : Value) (h2 : Sl A1 w1 v1 y0.needs) (r : Bool), f y0 = some r → Ret Tryd.prog f_f (f_a ++ #[.agg #[.int .i64 y0.ticket, .int .i64 y0.weight, .int .i64 y0.urgency, .int .i64 y0.since, .int .i64 y0.former, v1]] ++ f_c) w1 fun v w' => v = .bool r ∧ Kp Dw w1 w') {r : Int} (hm : slices_IndexFunc_Lroute_Work_route_Work s f = some r) : Ret Tryd.prog 23 #[v_s, .func (.func f_f) f_a f_c] w fun v w' => v = .int .i64 r ∧ Kp Dw w w' := by
  unfold slices_IndexFunc_Lroute_Work_route_Work at hm
  refine enter Tryd.func23 rfl Tryd.ntmps23 rfl ?_
  have hA0 := hA
  have hB := Nat.le_refl w.heap.size
  have hK : Tr Dw w.heap.size A w A w := Tr.refl (Dw := Dw) hA
  have hH : Hp w.heap.size A w [] := Hp.nil
  refine C_seq ?_
  refine C_region ?_
  refine V_y (Y_assign rfl) rfl rfl rfl ?_
  refine V_to (fun _ _ => rfl) ?_
  refine C_seq ?_
  refine C_seq ?_
  refine C_region ?_
  refine V_y (Y_move rfl) rfl rfl rfl ?_
  refine V_y (Y_lenSl h_s rfl Tryd.underlying23 rfl) rfl rfl rfl ?_
  refine V_y (Y_move rfl) rfl rfl rfl ?_
  refine V_to (fun _ _ => rfl) ?_
  have hn23 := Sl.le h_s
  obtain ⟨o3, ho3, hm⟩ := Option.bind_eq_some_iff.1 hm
  refine C_cutG (ι := (Unit × (Nat → Prop))) (fun ⟨s4, A10⟩ => []) (fun ⟨s4, A10⟩ => fun w' => o3 = .fin s4 ∧ Hp w.heap.size A10 w' ([]) ∧ Tr Dw w.heap.size A w A10 w') ?_ ?_
  · refine C_block ?_
    refine C_range ho3 (fun k6 _ a w' => ∃ i : (Nat → Prop), Has ⟨19, [], none⟩ a ([(0, v_s), (1, .func (.func f_f) f_a f_c), (7, .int .i64 (s.length : Int)), (8, .int .i64 (k6 : Int))]) ∧ Hp w.heap.size i w' ([]) ∧ Tr Dw w.heap.size A w i w') (fun a ha => ⟨A, ha.sub ⟨rfl, rfl, rfl, rfl, trivial⟩, ⟨hH, Tr.refl (Dw := Dw) hA⟩⟩) ?_
    rintro K k6 _ a w13 ⟨A14, ha39, hH15, hr5⟩ hle19 K22 h21
    refine C_of ?_ ha39
    replace h_s := Sl.tr (Dw := Dw) h_s hr5
    replace hK := Tr.trans (Dw := Dw) hK hr5
    replace hB := Nat.le_trans hB hr5.ex.size
    replace hA := hr5.new
    replace hH : Hp w.heap.size A14 w13 ([]) := hH15
    refine C_seq (C_region (V_y (Y_lss rfl rfl) rfl rfl rfl (V_to (fun _ _ => rfl) ?_)))
    refine C_seq ?_
    refine C_cond rfl (fun hc24 => ?_) (fun hc24 => ?_)
    · have hlt20 := lt_of_dec hc24
      obtain ⟨x16, h17, h18⟩ := K22 hlt20
      refine C_skip_to (fun _ _ => rfl) ?_
      refine C_seq ?_
      refine C_block ?_
      refine C_seq ?_
      refine C_region ?_
      refine V_y (Y_move rfl) rfl rfl rfl ?_
      refine V_y (Y_assign rfl) rfl rfl rfl ?_
      refine V_to (fun _ _ => rfl) ?_
      refine C_seq ?_
      refine C_region ?_
      refine V_y (Y_move rfl) rfl rfl rfl ?_
      refine V_y (Y_move rfl) rfl rfl rfl ?_
      refine V_y (Y_move rfl) rfl rfl rfl ?_
      obtain ⟨x25, hx25, h17⟩ := Option.bind_eq_some_iff.1 h17
      refine V_indexAddr h_s hx25 Tryd.underlying23 Tryd.sizeOf36 rfl rfl rfl ?_
      intro b26 o27 h28
      obtain ⟨v29, h31, h30⟩ := El_route_Work h28
      refine V_y (Y_loadA h31 Tryd.isAgg36 Tryd.sizeOf36 rfl) rfl rfl rfl ?_
      obtain ⟨x32, hx32, h17⟩ := Option.bind_eq_some_iff.1 h17
      refine V_call f_call rfl rfl rfl rfl (f_spec w13 _ hK hA x25 v29 h30 _ hx32) ?_
      rintro _ w33 ⟨rfl, hk34⟩
      have ht35 := Kp.tr (Dw := Dw) hk34 hA hB
      replace hH := Hp.kp (Dw := Dw) hH hk34
      replace h_s := Sl.tr (Dw := Dw) h_s ht35
      replace h28 := El.tr (Dw := Dw) h28 ht35
      replace h30 := Sl.tr (Dw := Dw) h30 ht35
      replace hK := Tr.trans (Dw := Dw) hK ht35
      replace hr5 := Tr.trans (Dw := Dw) hr5 ht35
      replace hB := Nat.le_trans hB ht35.ex.size
      replace hA := ht35.new
      refine V_to (fun _ _ => rfl) ?_
      refine C_cond rfl (fun hc36 => ?_) (fun hc36 => ?_)
      · rw [if_pos hc36] at h17
        refine C_seq ?_
        refine C_region ?_
        refine V_y (Y_move rfl) rfl rfl rfl ?_
        refine V_y (Y_assign rfl) rfl rfl rfl ?_
        refine V_to (fun _ _ => rfl) ?_
        obtain rfl := Option.some.inj h17
        obtain rfl := (h18 : Lp.rt _ = _)
        rw [Lp.andThen_rt] at hm
        obtain rfl := Option.some.inj hm
        refine C_ret ?_
        try simp only [↓inBlock_ret, ↓then_ret]
        exact retQ rfl (Res.one Tryd.results23 rfl) ⟨rfl, hK.kp⟩
      · rw [if_neg (nt hc36)] at h17
        refine C_skip_to (fun _ _ => rfl) ?_
        refine C_region ?_
        refine V_y (Y_addI rfl rfl) rfl rfl rfl ?_
        refine V_y (Y_move rfl) rfl rfl rfl ?_
        obtain rfl := Option.some.inj h17
        refine V_end (fun a ha37 => ?_)
        exact ⟨(), hlt20, h18, ⟨A14, ha37.sub ⟨rfl, rfl, rfl, (congrArg (fun z => some (Value.int .i64 z)) (w64_succ hlt20 hn23)), trivial⟩, ⟨hH, hr5⟩⟩⟩
    · refine C_exit (fun a ha38 => ?_)
      exact ⟨((), A14), ha38.sub trivial, ⟨(h21 (eq_of_dec hle19 hc24)).symm, hH, hr5⟩⟩
  rintro ⟨s4, A10⟩ w7 ⟨rfl, hH11, hk8⟩ a ha9
  rw [Lp.andThen_fin] at hm
  replace hK := Tr.trans (Dw := Dw) hK hk8
  replace hB := Nat.le_trans hB hk8.ex.size
  replace hA := hk8.new
  replace hH : Hp w.heap.size A10 w7 ([]) := hH11
  refine C_at (n := ⟨19, [], none⟩) (fun _ _ => rfl) ?_ ha9
  refine C_seq ?_
  refine C_region ?_
  refine V_y (Y_assign rfl) rfl rfl rfl ?_
  refine V_to (fun _ _ => rfl) ?_
  obtain rfl := Option.some.inj hm
  refine C_ret ?_
  try simp only [↓inBlock_ret, ↓then_ret]
  exact retQ rfl (Res.one Tryd.results23 rfl) ⟨rfl, hK.kp⟩

set_option maxRecDepth 4000 in
set_option maxHeartbeats 4000000 in
theorem slices_ContainsFunc_Lroute_Work_route_Work_c (w : World) {A : Nat → Prop} (hA : ∀ b, w.heap.size ≤ b → A b) (s : (List route_Work)) (v_s : Value) (h_s : Sl A w v_s s) (f : route_Work → Option Bool) (f_f : FuncId) (f_a f_c : Array Value) (f_call : ∀ (args : Array Value) (w : World), (callFunc f_f args).run Tryd.prog w = .ok (.enter f_f args) w) (f_spec : ∀ (w1 : World) (A1 : Nat → Prop), Tr Dw w.heap.size A w A1 w1 → (∀ b, w1.heap.size ≤ b → A1 b) → ∀ (y0 : route_Work) (v1 : Value) (h2 : Sl A1 w1 v1 y0.needs) (r : Bool), f y0 = some r → Ret Tryd.prog f_f (f_a ++ #[.agg #[.int .i64 y0.ticket, .int .i64 y0.weight, .int .i64 y0.urgency, .int .i64 y0.since, .int .i64 y0.former, v1]] ++ f_c) w1 fun v w' => v = .bool r ∧ Kp Dw w1 w') {r : Bool} (hm : slices_ContainsFunc_Lroute_Work_route_Work s f = some r) : Ret Tryd.prog 10 #[v_s, .func (.func f_f) f_a f_c] w fun v w' => v = .bool r ∧ Kp Dw w w' := by
  unfold slices_ContainsFunc_Lroute_Work_route_Work at hm
  refine enter Tryd.func10 rfl Tryd.ntmps10 rfl ?_
  have hA0 := hA
  have hB := Nat.le_refl w.heap.size
  have hK : Tr Dw w.heap.size A w A w := Tr.refl (Dw := Dw) hA
  have hH : Hp w.heap.size A w [] := Hp.nil
  refine C_seq ?_
  refine C_region ?_
  refine V_y (Y_assign rfl) rfl rfl rfl ?_
  refine V_to (fun _ _ => rfl) ?_
  refine C_seq ?_
  refine C_region ?_
  refine V_y (Y_move rfl) rfl rfl rfl ?_
  refine V_y (Y_move rfl) rfl rfl rfl ?_
  obtain ⟨x3, hx3, hm⟩ := Option.bind_eq_some_iff.1 hm
  refine V_call Tryd.call23 rfl rfl rfl rfl (slices_IndexFunc_Lroute_Work_route_Work_c (Dw := Dw) w hA s v_s h_s f f_f f_a f_c f_call (fun w1 A1 ht => f_spec w1 A1 (Tr.trans (Dw := Dw) hK (Tr.lower (Dw := Dw) ht hB))) hx3) ?_
  rintro _ w4 ⟨rfl, hk5⟩
  have ht6 := Kp.tr (Dw := Dw) hk5 hA hB
  replace hH := Hp.kp (Dw := Dw) hH hk5
  replace h_s := Sl.tr (Dw := Dw) h_s ht6
  replace hK := Tr.trans (Dw := Dw) hK ht6
  replace hB := Nat.le_trans hB ht6.ex.size
  replace hA := ht6.new
  refine V_y (Y_geq rfl rfl) rfl rfl rfl ?_
  refine V_y (Y_assign rfl) rfl rfl rfl ?_
  refine V_to (fun _ _ => rfl) ?_
  obtain rfl := Option.some.inj hm
  refine C_ret ?_
  try simp only [↓inBlock_ret, ↓then_ret]
  exact retQ rfl (Res.one Tryd.results10 rfl) ⟨rfl, hK.kp⟩

set_option maxRecDepth 4000 in
set_option maxHeartbeats 4000000 in
theorem route_CheckWork_1_c (w : World) {A : Nat → Prop} (hA : ∀ b, w.heap.size ≤ b → A b) (x : route_Work) (v_x : Value) (h_x : Sl A w v_x x.needs) (p1 : route_Work) (b_p1 : Nat) (h_p1 : El A w b_p1 0 p1) {r : Bool} (hm : route_CheckWork_1 x p1 = some r) : Ret Tryd.prog 22 #[.agg #[.int .i64 x.ticket, .int .i64 x.weight, .int .i64 x.urgency, .int .i64 x.since, .int .i64 x.former, v_x], .pointer (some ⟨b_p1, 0, none⟩)] w fun v w' => v = .bool r ∧ Kp Dw w w' := by
  unfold route_CheckWork_1 at hm
  refine enter Tryd.func22 rfl Tryd.ntmps22 rfl ?_
  have hA0 := hA
  have hB := Nat.le_refl w.heap.size
  have hK : Tr Dw w.heap.size A w A w := Tr.refl (Dw := Dw) hA
  have hH : Hp w.heap.size A w [] := Hp.nil
  refine C_seq ?_
  refine C_region ?_
  refine V_box rfl rfl ?_
  intro b3 w4 h5
  have hk7 := h5.kp (Dw := Dw)
  have h6 : El (α := route_Work) A w4 b3 0 x := h5.el hA ⟨[.int .i64 x.ticket], _, rfl, rfl, ⟨[.int .i64 x.weight], _, rfl, rfl, ⟨[.int .i64 x.urgency], _, rfl, rfl, ⟨[.int .i64 x.since], _, rfl, rfl, ⟨[.int .i64 x.former], _, rfl, rfl, ⟨_, rfl, h_x⟩⟩⟩⟩⟩⟩
  have ht8 := Kp.tr (Dw := Dw) hk7 hA hB
  replace hH := Hp.kp (Dw := Dw) hH hk7
  replace h_x := Sl.tr (Dw := Dw) h_x ht8
  replace h_p1 := El.tr (Dw := Dw) h_p1 ht8
  replace hK := Tr.trans (Dw := Dw) hK ht8
  replace hB := Nat.le_trans hB ht8.ex.size
  replace hA := ht8.new
  refine V_y (Y_assign rfl) rfl rfl rfl ?_
  refine V_to (fun _ _ => rfl) ?_
  refine C_seq ?_
  refine C_region ?_
  have h9 := El_route_Work_0 h6
  refine V_y (Y_fieldAddr Tryd.underlying36 rfl Tryd.sizeOf3 (by decide) rfl) rfl rfl rfl ?_
  refine V_y (Y_load (El.int h9) Tryd.isAgg3 rfl) rfl rfl rfl ?_
  have h10 := El_route_Work_0 h_p1
  refine V_y (Y_fieldAddr Tryd.underlying36 rfl Tryd.sizeOf3 (by decide) rfl) rfl rfl rfl ?_
  refine V_y (Y_load (El.int h10) Tryd.isAgg3 rfl) rfl rfl rfl ?_
  refine V_y (Y_eql rfl rfl) rfl rfl rfl ?_
  refine V_y (Y_assign rfl) rfl rfl rfl ?_
  refine V_to (fun _ _ => rfl) ?_
  obtain rfl := Option.some.inj hm
  refine C_ret ?_
  try simp only [↓inBlock_ret, ↓then_ret]
  exact retQ rfl (Res.one Tryd.results22 rfl) ⟨rfl, hK.kp⟩

set_option maxRecDepth 4000 in
set_option maxHeartbeats 4000000 in
theorem route_CheckWork_c (w : World) {A : Nat → Prop} (hA : ∀ b, w.heap.size ≤ b → A b) (l : (List route_Work)) (v_l : Value) (h_l : Sl A w v_l l) {r : Int} (hm : route_CheckWork l = some r) : Ret Tryd.prog 9 #[v_l] w fun v w' => v = .int .i64 r ∧ Kp Dw w w' := by
  unfold route_CheckWork at hm
  refine enter Tryd.func9 rfl Tryd.ntmps9 rfl ?_
  have hA0 := hA
  have hB := Nat.le_refl w.heap.size
  have hK : Tr Dw w.heap.size A w A w := Tr.refl (Dw := Dw) hA
  have hH : Hp w.heap.size A w [] := Hp.nil
  refine C_seq ?_
  refine C_region ?_
  refine V_y (Y_assign rfl) rfl rfl rfl ?_
  refine V_to (fun _ _ => rfl) ?_
  refine C_seq ?_
  refine C_seq ?_
  refine C_region ?_
  refine V_y (Y_move rfl) rfl rfl rfl ?_
  refine V_y (Y_lenSl h_l rfl Tryd.underlying23 rfl) rfl rfl rfl ?_
  refine V_y (Y_gtr rfl rfl) rfl rfl rfl ?_
  refine V_to (fun _ _ => rfl) ?_
  refine C_cond rfl (fun hc3 => ?_) (fun hc3 => ?_)
  · rw [if_pos hc3] at hm
    refine C_seq ?_
    refine C_region ?_
    refine V_y (Y_assign rfl) rfl rfl rfl ?_
    refine V_to (fun _ _ => rfl) ?_
    obtain rfl := Option.some.inj hm
    refine C_ret ?_
    try simp only [↓inBlock_ret, ↓then_ret]
    exact retQ rfl (Res.one Tryd.results9 rfl) ⟨rfl, hK.kp⟩
  · rw [if_neg (nt hc3)] at hm
    refine C_skip_to (fun _ _ => rfl) ?_
    refine C_seq ?_
    refine C_seq ?_
    refine C_region ?_
    refine V_y (Y_move rfl) rfl rfl rfl ?_
    refine V_y (Y_lenSl h_l rfl Tryd.underlying23 rfl) rfl rfl rfl ?_
    refine V_y (Y_move rfl) rfl rfl rfl ?_
    refine V_to (fun _ _ => rfl) ?_
    have hn25 := Sl.le h_l
    obtain ⟨o4, ho4, hm⟩ := Option.bind_eq_some_iff.1 hm
    refine C_cutG (ι := (Unit × (Nat → Prop))) (fun ⟨s5, A12⟩ => []) (fun ⟨s5, A12⟩ => fun w' => o4 = .fin s5 ∧ Hp w.heap.size A12 w' ([]) ∧ Tr Dw w.heap.size A w A12 w') ?_ ?_
    · refine C_block ?_
      refine C_range ho4 (fun k7 _ a w' => ∃ i : (Nat → Prop), Has ⟨57, [], none⟩ a ([(0, v_l), (9, v_l), (10, .int .i64 (l.length : Int)), (11, .int .i64 (k7 : Int))]) ∧ Hp w.heap.size i w' ([]) ∧ Tr Dw w.heap.size A w i w') (fun a ha => ⟨A, ha.sub ⟨rfl, rfl, rfl, rfl, trivial⟩, ⟨hH, Tr.refl (Dw := Dw) hA⟩⟩) ?_
      rintro K k7 _ a w15 ⟨A16, ha88, hH17, hr6⟩ hle21 K24 h23
      refine C_of ?_ ha88
      replace h_l := Sl.tr (Dw := Dw) h_l hr6
      replace hK := Tr.trans (Dw := Dw) hK hr6
      replace hB := Nat.le_trans hB hr6.ex.size
      replace hA := hr6.new
      replace hH : Hp w.heap.size A16 w15 ([]) := hH17
      refine C_seq (C_region (V_y (Y_lss rfl rfl) rfl rfl rfl (V_to (fun _ _ => rfl) ?_)))
      refine C_seq ?_
      refine C_cond rfl (fun hc26 => ?_) (fun hc26 => ?_)
      · have hlt22 := lt_of_dec hc26
        obtain ⟨x18, h19, h20⟩ := K24 hlt22
        refine C_skip_to (fun _ _ => rfl) ?_
        refine C_seq ?_
        refine C_block ?_
        refine C_seq ?_
        refine C_region ?_
        refine V_y (Y_move rfl) rfl rfl rfl ?_
        obtain ⟨x27, hx27, h19⟩ := Option.bind_eq_some_iff.1 h19
        refine V_indexAddr h_l hx27 Tryd.underlying23 Tryd.sizeOf36 rfl rfl rfl ?_
        intro b28 o29 h30
        obtain ⟨v31, h33, h32⟩ := El_route_Work h30
        refine V_y (Y_loadA h33 Tryd.isAgg36 Tryd.sizeOf36 rfl) rfl rfl rfl ?_
        refine V_alloc Tryd.zeroValue36 rfl ?_
        intro b34 w35 h36
        refine V_y (Y_assign rfl) rfl rfl rfl ?_
        have h41 : (v31).oneCell' = true := by obtain ⟨_, _, e, _⟩ := Sl.form h32; rw [e]; rfl
        refine V_storeNew h36 Tryd.sizeOf36 rfl rfl rfl rfl (by exact (List.forall_mem_cons.2 ⟨rfl, (List.forall_mem_cons.2 ⟨rfl, (List.forall_mem_cons.2 ⟨rfl, (List.forall_mem_cons.2 ⟨rfl, (List.forall_mem_cons.2 ⟨rfl, (List.forall_mem_cons.2 ⟨h41, (fun _ h => nomatch h)⟩)⟩)⟩)⟩)⟩)⟩)) ?_
        intro w37 h38
        have hk43 := h38.kp (Dw := Dw)
        have h42 : El (α := route_Work) A16 w37 b34 0 x27 := h38.el hA ⟨[.int .i64 x27.ticket], _, rfl, rfl, ⟨[.int .i64 x27.weight], _, rfl, rfl, ⟨[.int .i64 x27.urgency], _, rfl, rfl, ⟨[.int .i64 x27.since], _, rfl, rfl, ⟨[.int .i64 x27.former], _, rfl, rfl, ⟨_, rfl, h32⟩⟩⟩⟩⟩⟩
        have ht44 := Kp.tr (Dw := Dw) hk43 hA hB
        replace hH := Hp.kp (Dw := Dw) hH hk43
        replace h_l := Sl.tr (Dw := Dw) h_l ht44
        replace h30 := El.tr (Dw := Dw) h30 ht44
        replace h32 := Sl.tr (Dw := Dw) h32 ht44
        replace hK := Tr.trans (Dw := Dw) hK ht44
        replace hr6 := Tr.trans (Dw := Dw) hr6 ht44
        replace hB := Nat.le_trans hB ht44.ex.size
        replace hA := ht44.new
        refine V_to (fun _ _ => rfl) ?_
        refine C_seq ?_
        refine C_block ?_
        refine C_seq ?_
        refine C_region ?_
        have h45 := El_route_Work_0 h42
        refine V_y (Y_fieldAddr Tryd.underlying36 rfl Tryd.sizeOf3 (by decide) rfl) rfl rfl rfl ?_
        refine V_y (Y_load (El.int h45) Tryd.isAgg3 rfl) rfl rfl rfl ?_
        refine V_call Tryd.call20 rfl rfl rfl rfl (route_within_c w37 x27.ticket 1 400) ?_
        rintro _ _ ⟨rfl, rfl⟩
        refine V_y (Y_not rfl) rfl rfl rfl ?_
        refine V_y (Y_assign rfl) rfl rfl rfl ?_
        refine V_to (fun _ _ => rfl) ?_
        refine C_cond rfl (fun hc46 => ?_) (fun hc46 => ?_)
        · rw [if_pos hc46] at h19
          refine C_seq ?_
          refine C_region ?_
          refine V_y (Y_assign rfl) rfl rfl rfl ?_
          refine V_to (fun _ _ => rfl) ?_
          obtain rfl := Option.some.inj h19
          obtain rfl := (h20 : Lp.rt _ = _)
          rw [Lp.andThen_rt] at hm
          obtain rfl := Option.some.inj hm
          refine C_ret ?_
          try simp only [↓inBlock_ret, ↓then_ret]
          exact retQ rfl (Res.one Tryd.results9 rfl) ⟨rfl, hK.kp⟩
        · rw [if_neg (nt hc46)] at h19
          refine C_seq ?_
          refine C_region ?_
          refine V_y (Y_move rfl) rfl rfl rfl ?_
          refine V_y (Y_move rfl) rfl rfl rfl ?_
          obtain ⟨x47, hx47, h19⟩ := Option.bind_eq_some_iff.1 h19
          obtain ⟨v48, h49, h49y⟩ := sliceL_val hx47 h_l
          refine V_y (Y_sliceLH h49y Tryd.underlying23 Tryd.sizeOf36 rfl rfl) rfl rfl rfl ?_
          refine V_y (Y_makeFunc rfl rfl) rfl rfl rfl ?_
          obtain ⟨x51, hx51, h19⟩ := Option.bind_eq_some_iff.1 h19
          refine V_call Tryd.call10 rfl rfl rfl rfl (slices_ContainsFunc_Lroute_Work_route_Work_c (Dw := Dw) w37 hA x47 v48 h49 (fun y61 => route_CheckWork_1 y61 x27) 22 #[] #[.pointer (some ⟨b34, 0, none⟩)] Tryd.call22 (fun w57 A58 ht59 h60 y52 v53 h54 r55 h56 => (route_CheckWork_1_c (Dw := Dw) w57 h60 y52 v53 h54 x27 b34 (El.tr (Dw := Dw) h42 ht59) h56).mono (fun _ _ h => ⟨h.1, h.2⟩)) hx51) ?_
          rintro _ w62 ⟨rfl, hk63⟩
          have ht64 := Kp.tr (Dw := Dw) hk63 hA hB
          replace hH := Hp.kp (Dw := Dw) hH hk63
          replace h_l := Sl.tr (Dw := Dw) h_l ht64
          replace h42 := El.tr (Dw := Dw) h42 ht64
          replace h49 := Sl.tr (Dw := Dw) h49 ht64
          replace hK := Tr.trans (Dw := Dw) hK ht64
          replace hr6 := Tr.trans (Dw := Dw) hr6 ht64
          replace hB := Nat.le_trans hB ht64.ex.size
          replace hA := ht64.new
          refine V_y (Y_assign rfl) rfl rfl rfl ?_
          refine V_to (fun _ _ => rfl) ?_
          refine C_cond rfl (fun hc65 => ?_) (fun hc65 => ?_)
          · rw [if_pos hc65] at h19
            refine C_seq ?_
            refine C_region ?_
            refine V_y (Y_assign rfl) rfl rfl rfl ?_
            refine V_to (fun _ _ => rfl) ?_
            obtain rfl := Option.some.inj h19
            obtain rfl := (h20 : Lp.rt _ = _)
            rw [Lp.andThen_rt] at hm
            obtain rfl := Option.some.inj hm
            refine C_ret ?_
            try simp only [↓inBlock_ret, ↓then_ret]
            exact retQ rfl (Res.one Tryd.results9 rfl) ⟨rfl, hK.kp⟩
          · rw [if_neg (nt hc65)] at h19
            refine C_seq ?_
            refine C_region ?_
            have h66 := El_route_Work_1 h42
            refine V_y (Y_fieldAddr Tryd.underlying36 rfl Tryd.sizeOf3 (by decide) rfl) rfl rfl rfl ?_
            refine V_y (Y_load (El.int h66) Tryd.isAgg3 rfl) rfl rfl rfl ?_
            refine V_call Tryd.call20 rfl rfl rfl rfl (route_within_c w62 x27.weight 1 20) ?_
            rintro _ _ ⟨rfl, rfl⟩
            refine V_y (Y_not rfl) rfl rfl rfl ?_
            refine V_y (Y_move rfl) rfl rfl rfl ?_
            refine V_cut 5 (fun _ : Unit => [(0, v_l), (4, .pointer (some ⟨b34, 0, none⟩)), (9, v_l), (10, .int .i64 (l.length : Int)), (11, .int .i64 (k7 : Int)), (37, .bool ((!(route_within x27.weight 1 20)) || (!(route_within x27.urgency 0 9))))]) (fun _ w' => w62 = w') ?_ ?_
            · simp only [List.take, List.drop]
              rcases Bool.eq_false_or_eq_true (!(route_within x27.weight 1 20)) with hc67 | hc67
              · refine V_gn rfl rfl rfl hc67 rfl rfl rfl ?_
                refine V_gn rfl rfl rfl hc67 rfl rfl rfl ?_
                refine V_gn rfl rfl rfl hc67 rfl rfl rfl ?_
                refine V_gn rfl rfl rfl hc67 rfl rfl rfl ?_
                refine V_y (Y_pick_te rfl hc67 rfl) rfl rfl rfl ?_
                exact V_end fun a ha => ⟨(), ha.sub ⟨rfl, rfl, rfl, rfl, rfl, (by rw [hc67]; rfl), trivial⟩, rfl⟩
              · refine V_ge rfl rfl rfl hc67 ?_
                have h69 := El_route_Work_2 h42
                refine V_y (Y_fieldAddr Tryd.underlying36 rfl Tryd.sizeOf3 (by decide) rfl) rfl rfl rfl ?_
                refine V_ge rfl rfl rfl hc67 ?_
                refine V_y (Y_load (El.int h69) Tryd.isAgg3 rfl) rfl rfl rfl ?_
                refine V_ge rfl rfl rfl hc67 ?_
                refine V_call Tryd.call20 rfl rfl rfl rfl (route_within_c w62 x27.urgency 0 9) ?_
                rintro _ _ ⟨rfl, rfl⟩
                refine V_ge rfl rfl rfl hc67 ?_
                refine V_y (Y_not rfl) rfl rfl rfl ?_
                refine V_y (Y_pick_fe rfl hc67 rfl) rfl rfl rfl ?_
                exact V_end fun a ha => ⟨(), ha.sub ⟨rfl, rfl, rfl, rfl, rfl, (by rw [hc67]; rfl), trivial⟩, rfl⟩
            simp only [List.take, List.drop]
            rintro _ _ rfl
            refine V_y (Y_move rfl) rfl rfl rfl ?_
            refine V_cut 5 (fun _ : Unit => [(0, v_l), (4, .pointer (some ⟨b34, 0, none⟩)), (9, v_l), (10, .int .i64 (l.length : Int)), (11, .int .i64 (k7 : Int)), (43, .bool (((!(route_within x27.weight 1 20)) || (!(route_within x27.urgency 0 9))) || (!(route_within x27.since 0 3000000))))]) (fun _ w' => w62 = w') ?_ ?_
            · simp only [List.take, List.drop]
              rcases Bool.eq_false_or_eq_true (((!(route_within x27.weight 1 20)) || (!(route_within x27.urgency 0 9)))) with hc70 | hc70
              · refine V_gn rfl rfl rfl hc70 rfl rfl rfl ?_
                refine V_gn rfl rfl rfl hc70 rfl rfl rfl ?_
                refine V_gn rfl rfl rfl hc70 rfl rfl rfl ?_
                refine V_gn rfl rfl rfl hc70 rfl rfl rfl ?_
                refine V_y (Y_pick_te rfl hc70 rfl) rfl rfl rfl ?_
                exact V_end fun a ha => ⟨(), ha.sub ⟨rfl, rfl, rfl, rfl, rfl, (by rw [hc70]; rfl), trivial⟩, rfl⟩
              · refine V_ge rfl rfl rfl hc70 ?_
                have h72 := El_route_Work_3 h42
                refine V_y (Y_fieldAddr Tryd.underlying36 rfl Tryd.sizeOf3 (by decide) rfl) rfl rfl rfl ?_
                refine V_ge rfl rfl rfl hc70 ?_
                refine V_y (Y_load (El.int h72) Tryd.isAgg3 rfl) rfl rfl rfl ?_
                refine V_ge rfl rfl rfl hc70 ?_
                refine V_call Tryd.call20 rfl rfl rfl rfl (route_within_c w62 x27.since 0 3000000) ?_
                rintro _ _ ⟨rfl, rfl⟩
                refine V_ge rfl rfl rfl hc70 ?_
                refine V_y (Y_not rfl) rfl rfl rfl ?_
                refine V_y (Y_pick_fe rfl hc70 rfl) rfl rfl rfl ?_
                exact V_end fun a ha => ⟨(), ha.sub ⟨rfl, rfl, rfl, rfl, rfl, (by rw [hc70]; rfl), trivial⟩, rfl⟩
            simp only [List.take, List.drop]
            rintro _ _ rfl
            refine V_y (Y_move rfl) rfl rfl rfl ?_
            refine V_cut 5 (fun _ : Unit => [(0, v_l), (4, .pointer (some ⟨b34, 0, none⟩)), (9, v_l), (10, .int .i64 (l.length : Int)), (11, .int .i64 (k7 : Int)), (49, .bool ((((!(route_within x27.weight 1 20)) || (!(route_within x27.urgency 0 9))) || (!(route_within x27.since 0 3000000))) || (!(route_within x27.former 0 40))))]) (fun _ w' => w62 = w') ?_ ?_
            · simp only [List.take, List.drop]
              rcases Bool.eq_false_or_eq_true ((((!(route_within x27.weight 1 20)) || (!(route_within x27.urgency 0 9))) || (!(route_within x27.since 0 3000000)))) with hc73 | hc73
              · refine V_gn rfl rfl rfl hc73 rfl rfl rfl ?_
                refine V_gn rfl rfl rfl hc73 rfl rfl rfl ?_
                refine V_gn rfl rfl rfl hc73 rfl rfl rfl ?_
                refine V_gn rfl rfl rfl hc73 rfl rfl rfl ?_
                refine V_y (Y_pick_te rfl hc73 rfl) rfl rfl rfl ?_
                exact V_end fun a ha => ⟨(), ha.sub ⟨rfl, rfl, rfl, rfl, rfl, (by rw [hc73]; rfl), trivial⟩, rfl⟩
              · refine V_ge rfl rfl rfl hc73 ?_
                have h75 := El_route_Work_4 h42
                refine V_y (Y_fieldAddr Tryd.underlying36 rfl Tryd.sizeOf3 (by decide) rfl) rfl rfl rfl ?_
                refine V_ge rfl rfl rfl hc73 ?_
                refine V_y (Y_load (El.int h75) Tryd.isAgg3 rfl) rfl rfl rfl ?_
                refine V_ge rfl rfl rfl hc73 ?_
                refine V_call Tryd.call20 rfl rfl rfl rfl (route_within_c w62 x27.former 0 40) ?_
                rintro _ _ ⟨rfl, rfl⟩
                refine V_ge rfl rfl rfl hc73 ?_
                refine V_y (Y_not rfl) rfl rfl rfl ?_
                refine V_y (Y_pick_fe rfl hc73 rfl) rfl rfl rfl ?_
                exact V_end fun a ha => ⟨(), ha.sub ⟨rfl, rfl, rfl, rfl, rfl, (by rw [hc73]; rfl), trivial⟩, rfl⟩
            simp only [List.take, List.drop]
            rintro _ _ rfl
            refine V_y (Y_assign rfl) rfl rfl rfl ?_
            refine V_to (fun _ _ => rfl) ?_
            refine C_cond rfl (fun hc76 => ?_) (fun hc76 => ?_)
            · rw [if_pos hc76] at h19
              refine C_seq ?_
              refine C_region ?_
              refine V_y (Y_assign rfl) rfl rfl rfl ?_
              refine V_to (fun _ _ => rfl) ?_
              obtain rfl := Option.some.inj h19
              obtain rfl := (h20 : Lp.rt _ = _)
              rw [Lp.andThen_rt] at hm
              obtain rfl := Option.some.inj hm
              refine C_ret ?_
              try simp only [↓inBlock_ret, ↓then_ret]
              exact retQ rfl (Res.one Tryd.results9 rfl) ⟨rfl, hK.kp⟩
            · rw [if_neg (nt hc76)] at h19
              refine C_skip_to (fun _ _ => rfl) ?_
              refine C_seq ?_
              refine C_region ?_
              have h77 := El_route_Work_5 h42
              refine V_y (Y_fieldAddr Tryd.underlying36 rfl Tryd.sizeOf34 (by decide) rfl) rfl rfl rfl ?_
              obtain ⟨v78, h79, h80⟩ := El.list h77
              refine V_y (Y_load h79 Tryd.isAgg34 rfl) rfl rfl rfl ?_
              obtain ⟨x81, hx81, h19⟩ := Option.bind_eq_some_iff.1 h19
              refine V_call Tryd.call21 rfl rfl rfl rfl (route_checkSkills_c (Dw := Dw) w62 hA x27.needs v78 h80 hx81) ?_
              rintro _ w82 ⟨rfl, hk83⟩
              have ht84 := Kp.tr (Dw := Dw) hk83 hA hB
              replace hH := Hp.kp (Dw := Dw) hH hk83
              replace h_l := Sl.tr (Dw := Dw) h_l ht84
              replace h42 := El.tr (Dw := Dw) h42 ht84
              replace h77 := El.tr (Dw := Dw) h77 ht84
              replace h80 := Sl.tr (Dw := Dw) h80 ht84
              replace hK := Tr.trans (Dw := Dw) hK ht84
              replace hr6 := Tr.trans (Dw := Dw) hr6 ht84
              replace hB := Nat.le_trans hB ht84.ex.size
              replace hA := ht84.new
              refine V_y (Y_assign rfl) rfl rfl rfl ?_
              refine V_to (fun _ _ => rfl) ?_
              refine C_seq ?_
              refine C_region ?_
              refine V_y (Y_move rfl) rfl rfl rfl ?_
              refine V_y (Y_neq rfl rfl) rfl rfl rfl ?_
              refine V_to (fun _ _ => rfl) ?_
              refine C_cond rfl (fun hc85 => ?_) (fun hc85 => ?_)
              · rw [if_pos hc85] at h19
                refine C_seq ?_
                refine C_region ?_
                refine V_y (Y_move rfl) rfl rfl rfl ?_
                refine V_y (Y_assign rfl) rfl rfl rfl ?_
                refine V_to (fun _ _ => rfl) ?_
                obtain rfl := Option.some.inj h19
                obtain rfl := (h20 : Lp.rt _ = _)
                rw [Lp.andThen_rt] at hm
                obtain rfl := Option.some.inj hm
                refine C_ret ?_
                try simp only [↓inBlock_ret, ↓then_ret]
                exact retQ rfl (Res.one Tryd.results9 rfl) ⟨rfl, hK.kp⟩
              · rw [if_neg (nt hc85)] at h19
                refine C_skip_to (fun _ _ => rfl) ?_
                refine C_region ?_
                refine V_y (Y_addI rfl rfl) rfl rfl rfl ?_
                refine V_y (Y_move rfl) rfl rfl rfl ?_
                obtain rfl := Option.some.inj h19
                refine V_end (fun a ha86 => ?_)
                exact ⟨(), hlt22, h20, ⟨A16, ha86.sub ⟨rfl, rfl, rfl, (congrArg (fun z => some (Value.int .i64 z)) (w64_succ hlt22 hn25)), trivial⟩, ⟨hH, hr6⟩⟩⟩
      · refine C_exit (fun a ha87 => ?_)
        exact ⟨((), A16), ha87.sub trivial, ⟨(h23 (eq_of_dec hle21 hc26)).symm, hH, hr6⟩⟩
    rintro ⟨s5, A12⟩ w9 ⟨rfl, hH13, hk10⟩ a ha11
    rw [Lp.andThen_fin] at hm
    replace hK := Tr.trans (Dw := Dw) hK hk10
    replace hB := Nat.le_trans hB hk10.ex.size
    replace hA := hk10.new
    replace hH : Hp w.heap.size A12 w9 ([]) := hH13
    refine C_at (n := ⟨57, [], none⟩) (fun _ _ => rfl) ?_ ha11
    refine C_seq ?_
    refine C_region ?_
    refine V_y (Y_assign rfl) rfl rfl rfl ?_
    refine V_to (fun _ _ => rfl) ?_
    obtain rfl := Option.some.inj hm
    refine C_ret ?_
    try simp only [↓inBlock_ret, ↓then_ret]
    exact retQ rfl (Res.one Tryd.results9 rfl) ⟨rfl, hK.kp⟩

set_option maxRecDepth 4000 in
set_option maxHeartbeats 4000000 in
theorem cmp_Or_api_Errno_c (w : World) {A : Nat → Prop} (vals : (List Int)) (v_vals : Value) (h_vals : Sl A w v_vals vals) {r : Int} (hm : cmp_Or_api_Errno vals = some r) : Ret Tryd.prog 7 #[v_vals] w fun v w' => v = .int .i64 r ∧ w = w' := by
  unfold cmp_Or_api_Errno at hm
  refine enter Tryd.func7 rfl Tryd.ntmps7 rfl ?_
  refine C_seq ?_
  refine C_region ?_
  refine V_y (Y_assign rfl) rfl rfl rfl ?_
  refine V_to (fun _ _ => rfl) ?_
  refine C_seq ?_
  refine C_region ?_
  refine V_y (Y_assign rfl) rfl rfl rfl ?_
  refine V_to (fun _ _ => rfl) ?_
  refine C_seq ?_
  refine C_seq ?_
  refine C_region ?_
  refine V_y (Y_move rfl) rfl rfl rfl ?_
  refine V_y (Y_lenSl h_vals rfl Tryd.underlying48 rfl) rfl rfl rfl ?_
  refine V_y (Y_move rfl) rfl rfl rfl ?_
  refine V_to (fun _ _ => rfl) ?_
  have hn19 := Sl.le h_vals
  obtain ⟨o3, ho3, hm⟩ := Option.bind_eq_some_iff.1 hm
  refine C_cutG (ι := Unit) (fun (s4 : Unit) => [(3, .int .i64 0)]) (fun (s4 : Unit) => fun w' => o3 = .fin s4 ∧ w = w') ?_ ?_
  · refine C_block ?_
    refine C_range ho3 (fun k6 _ a w' => ∃ i : Unit, Has ⟨18, [], none⟩ a ([(3, .int .i64 0), (6, v_vals), (7, .int .i64 (vals.length : Int)), (8, .int .i64 (k6 : Int))]) ∧ w = w') (fun a ha => ⟨(), ha.sub ⟨rfl, rfl, rfl, rfl, trivial⟩, rfl⟩) ?_
    rintro K k6 _ a _ ⟨_, ha28, rfl⟩ hle15 K18 h17
    refine C_of ?_ ha28
    refine C_seq (C_region (V_y (Y_lss rfl rfl) rfl rfl rfl (V_to (fun _ _ => rfl) ?_)))
    refine C_seq ?_
    refine C_cond rfl (fun hc20 => ?_) (fun hc20 => ?_)
    · have hlt16 := lt_of_dec hc20
      obtain ⟨x12, h13, h14⟩ := K18 hlt16
      refine C_skip_to (fun _ _ => rfl) ?_
      refine C_seq ?_
      refine C_block ?_
      refine C_seq ?_
      refine C_region ?_
      obtain ⟨x21, hx21, h13⟩ := Option.bind_eq_some_iff.1 h13
      refine V_indexAddr h_vals hx21 Tryd.underlying48 Tryd.sizeOf25 rfl rfl rfl ?_
      intro b22 o23 h24
      refine V_y (Y_load (El.int h24) Tryd.isAgg25 rfl) rfl rfl rfl ?_
      refine V_y (Y_assign rfl) rfl rfl rfl ?_
      refine V_to (fun _ _ => rfl) ?_
      refine C_seq ?_
      refine C_region ?_
      refine V_y (Y_move rfl) rfl rfl rfl ?_
      refine V_y (Y_move rfl) rfl rfl rfl ?_
      refine V_y (Y_neq rfl rfl) rfl rfl rfl ?_
      refine V_to (fun _ _ => rfl) ?_
      refine C_cond rfl (fun hc25 => ?_) (fun hc25 => ?_)
      · rw [if_pos hc25] at h13
        refine C_seq ?_
        refine C_region ?_
        refine V_y (Y_move rfl) rfl rfl rfl ?_
        refine V_y (Y_assign rfl) rfl rfl rfl ?_
        refine V_to (fun _ _ => rfl) ?_
        obtain rfl := Option.some.inj h13
        obtain rfl := (h14 : Lp.rt _ = _)
        rw [Lp.andThen_rt] at hm
        obtain rfl := Option.some.inj hm
        refine C_ret ?_
        try simp only [↓inBlock_ret, ↓then_ret]
        exact retQ rfl (Res.one Tryd.results7 rfl) ⟨rfl, rfl⟩
      · rw [if_neg (nt hc25)] at h13
        refine C_skip_to (fun _ _ => rfl) ?_
        refine C_region ?_
        refine V_y (Y_addI rfl rfl) rfl rfl rfl ?_
        refine V_y (Y_move rfl) rfl rfl rfl ?_
        obtain rfl := Option.some.inj h13
        refine V_end (fun a ha26 => ?_)
        exact ⟨(), hlt16, h14, ⟨(), ha26.sub ⟨rfl, rfl, rfl, (congrArg (fun z => some (Value.int .i64 z)) (w64_succ hlt16 hn19)), trivial⟩, rfl⟩⟩
    · refine C_exit (fun a ha27 => ?_)
      exact ⟨(), ha27.sub ⟨rfl, trivial⟩, ⟨(h17 (eq_of_dec hle15 hc20)).symm, rfl⟩⟩
  rintro s4 _ ⟨rfl, rfl⟩ a ha9
  rw [Lp.andThen_fin] at hm
  refine C_at (n := ⟨18, [], none⟩) (fun _ _ => rfl) ?_ ha9
  refine C_seq ?_
  refine C_region ?_
  refine V_y (Y_move rfl) rfl rfl rfl ?_
  refine V_y (Y_assign rfl) rfl rfl rfl ?_
  refine V_to (fun _ _ => rfl) ?_
  obtain rfl := Option.some.inj hm
  refine C_ret ?_
  try simp only [↓inBlock_ret, ↓then_ret]
  exact retQ rfl (Res.one Tryd.results7 rfl) ⟨rfl, rfl⟩

set_option maxRecDepth 4000 in
set_option maxHeartbeats 4000000 in
theorem route_Match_1_c (w : World) {A : Nat → Prop} (hA : ∀ b, w.heap.size ≤ b → A b) (w_ : route_Work) (v_w_ : Value) (h_w_ : Sl A w v_w_ w_.needs) {r : Bool} (hm : route_Match_1 w_ = some r) : Ret Tryd.prog 11 #[.agg #[.int .i64 w_.ticket, .int .i64 w_.weight, .int .i64 w_.urgency, .int .i64 w_.since, .int .i64 w_.former, v_w_]] w fun v w' => v = .bool r ∧ Kp Dw w w' := by
  unfold route_Match_1 at hm
  refine enter Tryd.func11 rfl Tryd.ntmps11 rfl ?_
  have hA0 := hA
  have hB := Nat.le_refl w.heap.size
  have hK : Tr Dw w.heap.size A w A w := Tr.refl (Dw := Dw) hA
  have hH : Hp w.heap.size A w [] := Hp.nil
  refine C_seq ?_
  refine C_region ?_
  refine V_box rfl rfl ?_
  intro b3 w4 h5
  have hk7 := h5.kp (Dw := Dw)
  have h6 : El (α := route_Work) A w4 b3 0 w_ := h5.el hA ⟨[.int .i64 w_.ticket], _, rfl, rfl, ⟨[.int .i64 w_.weight], _, rfl, rfl, ⟨[.int .i64 w_.urgency], _, rfl, rfl, ⟨[.int .i64 w_.since], _, rfl, rfl, ⟨[.int .i64 w_.former], _, rfl, rfl, ⟨_, rfl, h_w_⟩⟩⟩⟩⟩⟩
  have ht8 := Kp.tr (Dw := Dw) hk7 hA hB
  replace hH := Hp.kp (Dw := Dw) hH hk7
  replace h_w_ := Sl.tr (Dw := Dw) h_w_ ht8
  replace hK := Tr.trans (Dw := Dw) hK ht8
  replace hB := Nat.le_trans hB ht8.ex.size
  replace hA := ht8.new
  refine V_y (Y_assign rfl) rfl rfl rfl ?_
  refine V_to (fun _ _ => rfl) ?_
  refine C_seq ?_
  refine C_region ?_
  have h9 := El_route_Work_1 h6
  refine V_y (Y_fieldAddr Tryd.underlying36 rfl Tryd.sizeOf3 (by decide) rfl) rfl rfl rfl ?_
  refine V_y (Y_load (El.int h9) Tryd.isAgg3 rfl) rfl rfl rfl ?_
  refine V_y (Y_neq rfl rfl) rfl rfl rfl ?_
  refine V_y (Y_assign rfl) rfl rfl rfl ?_
  refine V_to (fun _ _ => rfl) ?_
  obtain rfl := Option.some.inj hm
  refine C_ret ?_
  try simp only [↓inBlock_ret, ↓then_ret]
  exact retQ rfl (Res.one Tryd.results11 rfl) ⟨rfl, hK.kp⟩

set_option maxRecDepth 4000 in
set_option maxHeartbeats 4000000 in
theorem cmp_isNaN_int_c (w : World) (x : Int) : Ret Tryd.prog 43 #[.int .i64 x] w fun v w' => v = .bool (cmp_isNaN_int x) ∧ w = w' := by
  generalize hm : cmp_isNaN_int x = r
  unfold cmp_isNaN_int at hm
  refine enter Tryd.func43 rfl Tryd.ntmps43 rfl ?_
  refine C_seq ?_
  refine C_region ?_
  refine V_y (Y_assign rfl) rfl rfl rfl ?_
  refine V_to (fun _ _ => rfl) ?_
  refine C_seq ?_
  refine C_region ?_
  refine V_y (Y_move rfl) rfl rfl rfl ?_
  refine V_y (Y_move rfl) rfl rfl rfl ?_
  refine V_y (Y_neq rfl rfl) rfl rfl rfl ?_
  refine V_y (Y_assign rfl) rfl rfl rfl ?_
  refine V_to (fun _ _ => rfl) ?_
  obtain rfl := hm
  refine C_ret ?_
  try simp only [↓inBlock_ret, ↓then_ret]
  exact retQ rfl (Res.one Tryd.results43 rfl) ⟨rfl, rfl⟩

set_option maxRecDepth 4000 in
set_option maxHeartbeats 4000000 in
theorem cmp_Compare_int_c (w : World) (x : Int) (y : Int) : Ret Tryd.prog 27 #[.int .i64 x, .int .i64 y] w fun v w' => v = .int .i64 (cmp_Compare_int x y) ∧ w = w' := by
  generalize hm : cmp_Compare_int x y = r
  unfold cmp_Compare_int at hm
  refine enter Tryd.func27 rfl Tryd.ntmps27 rfl ?_
  refine C_seq ?_
  refine C_region ?_
  refine V_y (Y_assign rfl) rfl rfl rfl ?_
  refine V_to (fun _ _ => rfl) ?_
  refine C_seq ?_
  refine C_region ?_
  refine V_y (Y_move rfl) rfl rfl rfl ?_
  refine V_call Tryd.call43 rfl rfl rfl rfl (cmp_isNaN_int_c w x) ?_
  rintro _ _ ⟨rfl, rfl⟩
  refine V_y (Y_assign rfl) rfl rfl rfl ?_
  refine V_to (fun _ _ => rfl) ?_
  refine C_seq ?_
  refine C_region ?_
  refine V_y (Y_move rfl) rfl rfl rfl ?_
  refine V_call Tryd.call43 rfl rfl rfl rfl (cmp_isNaN_int_c w y) ?_
  rintro _ _ ⟨rfl, rfl⟩
  refine V_y (Y_assign rfl) rfl rfl rfl ?_
  refine V_to (fun _ _ => rfl) ?_
  refine C_seq ?_
  refine C_seq ?_
  refine C_region ?_
  refine V_y (Y_move rfl) rfl rfl rfl ?_
  refine V_to (fun _ _ => rfl) ?_
  refine C_cond rfl (fun hc1 => ?_) (fun hc1 => ?_)
  · rw [if_pos hc1] at hm
    refine C_seq ?_
    refine C_seq ?_
    refine C_region ?_
    refine V_y (Y_move rfl) rfl rfl rfl ?_
    refine V_to (fun _ _ => rfl) ?_
    refine C_cond rfl (fun hc2 => ?_) (fun hc2 => ?_)
    · rw [if_pos hc2] at hm
      refine C_seq ?_
      refine C_region ?_
      refine V_y (Y_assign rfl) rfl rfl rfl ?_
      refine V_to (fun _ _ => rfl) ?_
      obtain rfl := hm
      refine C_ret ?_
      try simp only [↓inBlock_ret, ↓then_ret]
      exact retQ rfl (Res.one Tryd.results27 rfl) ⟨rfl, rfl⟩
    · rw [if_neg (nt hc2)] at hm
      refine C_skip_to (fun _ _ => rfl) ?_
      refine C_seq ?_
      refine C_region ?_
      refine V_y (Y_assign rfl) rfl rfl rfl ?_
      refine V_to (fun _ _ => rfl) ?_
      obtain rfl := hm
      refine C_ret ?_
      try simp only [↓inBlock_ret, ↓then_ret]
      exact retQ rfl (Res.one Tryd.results27 rfl) ⟨rfl, rfl⟩
  · rw [if_neg (nt hc1)] at hm
    refine C_skip_to (fun _ _ => rfl) ?_
    refine C_seq ?_
    refine C_seq ?_
    refine C_region ?_
    refine V_y (Y_move rfl) rfl rfl rfl ?_
    refine V_to (fun _ _ => rfl) ?_
    refine C_cond rfl (fun hc3 => ?_) (fun hc3 => ?_)
    · rw [if_pos hc3] at hm
      refine C_seq ?_
      refine C_region ?_
      refine V_y (Y_assign rfl) rfl rfl rfl ?_
      refine V_to (fun _ _ => rfl) ?_
      obtain rfl := hm
      refine C_ret ?_
      try simp only [↓inBlock_ret, ↓then_ret]
      exact retQ rfl (Res.one Tryd.results27 rfl) ⟨rfl, rfl⟩
    · rw [if_neg (nt hc3)] at hm
      refine C_skip_to (fun _ _ => rfl) ?_
      refine C_seq ?_
      refine C_seq ?_
      refine C_region ?_
      refine V_y (Y_move rfl) rfl rfl rfl ?_
      refine V_y (Y_move rfl) rfl rfl rfl ?_
      refine V_y (Y_lss rfl rfl) rfl rfl rfl ?_
      refine V_to (fun _ _ => rfl) ?_
      refine C_cond rfl (fun hc4 => ?_) (fun hc4 => ?_)
      · rw [if_pos hc4] at hm
        refine C_seq ?_
        refine C_region ?_
        refine V_y (Y_assign rfl) rfl rfl rfl ?_
        refine V_to (fun _ _ => rfl) ?_
        obtain rfl := hm
        refine C_ret ?_
        try simp only [↓inBlock_ret, ↓then_ret]
        exact retQ rfl (Res.one Tryd.results27 rfl) ⟨rfl, rfl⟩
      · rw [if_neg (nt hc4)] at hm
        refine C_skip_to (fun _ _ => rfl) ?_
        refine C_seq ?_
        refine C_seq ?_
        refine C_region ?_
        refine V_y (Y_move rfl) rfl rfl rfl ?_
        refine V_y (Y_move rfl) rfl rfl rfl ?_
        refine V_y (Y_gtr rfl rfl) rfl rfl rfl ?_
        refine V_to (fun _ _ => rfl) ?_
        refine C_cond rfl (fun hc5 => ?_) (fun hc5 => ?_)
        · rw [if_pos hc5] at hm
          refine C_seq ?_
          refine C_region ?_
          refine V_y (Y_assign rfl) rfl rfl rfl ?_
          refine V_to (fun _ _ => rfl) ?_
          obtain rfl := hm
          refine C_ret ?_
          try simp only [↓inBlock_ret, ↓then_ret]
          exact retQ rfl (Res.one Tryd.results27 rfl) ⟨rfl, rfl⟩
        · rw [if_neg (nt hc5)] at hm
          refine C_skip_to (fun _ _ => rfl) ?_
          refine C_seq ?_
          refine C_region ?_
          refine V_y (Y_assign rfl) rfl rfl rfl ?_
          refine V_to (fun _ _ => rfl) ?_
          obtain rfl := hm
          refine C_ret ?_
          try simp only [↓inBlock_ret, ↓then_ret]
          exact retQ rfl (Res.one Tryd.results27 rfl) ⟨rfl, rfl⟩

set_option maxRecDepth 4000 in
set_option maxHeartbeats 4000000 in
theorem cmp_Or_int_c (w : World) {A : Nat → Prop} (vals : (List Int)) (v_vals : Value) (h_vals : Sl A w v_vals vals) {r : Int} (hm : cmp_Or_int vals = some r) : Ret Tryd.prog 26 #[v_vals] w fun v w' => v = .int .i64 r ∧ w = w' := by
  unfold cmp_Or_int at hm
  refine enter Tryd.func26 rfl Tryd.ntmps26 rfl ?_
  refine C_seq ?_
  refine C_region ?_
  refine V_y (Y_assign rfl) rfl rfl rfl ?_
  refine V_to (fun _ _ => rfl) ?_
  refine C_seq ?_
  refine C_region ?_
  refine V_y (Y_assign rfl) rfl rfl rfl ?_
  refine V_to (fun _ _ => rfl) ?_
  refine C_seq ?_
  refine C_seq ?_
  refine C_region ?_
  refine V_y (Y_move rfl) rfl rfl rfl ?_
  refine V_y (Y_lenSl h_vals rfl Tryd.underlying24 rfl) rfl rfl rfl ?_
  refine V_y (Y_move rfl) rfl rfl rfl ?_
  refine V_to (fun _ _ => rfl) ?_
  have hn19 := Sl.le h_vals
  obtain ⟨o3, ho3, hm⟩ := Option.bind_eq_some_iff.1 hm
  refine C_cutG (ι := Unit) (fun (s4 : Unit) => [(3, .int .i64 0)]) (fun (s4 : Unit) => fun w' => o3 = .fin s4 ∧ w = w') ?_ ?_
  · refine C_block ?_
    refine C_range ho3 (fun k6 _ a w' => ∃ i : Unit, Has ⟨18, [], none⟩ a ([(3, .int .i64 0), (6, v_vals), (7, .int .i64 (vals.length : Int)), (8, .int .i64 (k6 : Int))]) ∧ w = w') (fun a ha => ⟨(), ha.sub ⟨rfl, rfl, rfl, rfl, trivial⟩, rfl⟩) ?_
    rintro K k6 _ a _ ⟨_, ha28, rfl⟩ hle15 K18 h17
    refine C_of ?_ ha28
    refine C_seq (C_region (V_y (Y_lss rfl rfl) rfl rfl rfl (V_to (fun _ _ => rfl) ?_)))
    refine C_seq ?_
    refine C_cond rfl (fun hc20 => ?_) (fun hc20 => ?_)
    · have hlt16 := lt_of_dec hc20
      obtain ⟨x12, h13, h14⟩ := K18 hlt16
      refine C_skip_to (fun _ _ => rfl) ?_
      refine C_seq ?_
      refine C_block ?_
      refine C_seq ?_
      refine C_region ?_
      obtain ⟨x21, hx21, h13⟩ := Option.bind_eq_some_iff.1 h13
      refine V_indexAddr h_vals hx21 Tryd.underlying24 Tryd.sizeOf3 rfl rfl rfl ?_
      intro b22 o23 h24
      refine V_y (Y_load (El.int h24) Tryd.isAgg3 rfl) rfl rfl rfl ?_
      refine V_y (Y_assign rfl) rfl rfl rfl ?_
      refine V_to (fun _ _ => rfl) ?_
      refine C_seq ?_
      refine C_region ?_
      refine V_y (Y_move rfl) rfl rfl rfl ?_
      refine V_y (Y_move rfl) rfl rfl rfl ?_
      refine V_y (Y_neq rfl rfl) rfl rfl rfl ?_
      refine V_to (fun _ _ => rfl) ?_
      refine C_cond rfl (fun hc25 => ?_) (fun hc25 => ?_)
      · rw [if_pos hc25] at h13
        refine C_seq ?_
        refine C_region ?_
        refine V_y (Y_move rfl) rfl rfl rfl ?_
        refine V_y (Y_assign rfl) rfl rfl rfl ?_
        refine V_to (fun _ _ => rfl) ?_
        obtain rfl := Option.some.inj h13
        obtain rfl := (h14 : Lp.rt _ = _)
        rw [Lp.andThen_rt] at hm
        obtain rfl := Option.some.inj hm
        refine C_ret ?_
        try simp only [↓inBlock_ret, ↓then_ret]
        exact retQ rfl (Res.one Tryd.results26 rfl) ⟨rfl, rfl⟩
      · rw [if_neg (nt hc25)] at h13
        refine C_skip_to (fun _ _ => rfl) ?_
        refine C_region ?_
        refine V_y (Y_addI rfl rfl) rfl rfl rfl ?_
        refine V_y (Y_move rfl) rfl rfl rfl ?_
        obtain rfl := Option.some.inj h13
        refine V_end (fun a ha26 => ?_)
        exact ⟨(), hlt16, h14, ⟨(), ha26.sub ⟨rfl, rfl, rfl, (congrArg (fun z => some (Value.int .i64 z)) (w64_succ hlt16 hn19)), trivial⟩, rfl⟩⟩
    · refine C_exit (fun a ha27 => ?_)
      exact ⟨(), ha27.sub ⟨rfl, trivial⟩, ⟨(h17 (eq_of_dec hle15 hc20)).symm, rfl⟩⟩
  rintro s4 _ ⟨rfl, rfl⟩ a ha9
  rw [Lp.andThen_fin] at hm
  refine C_at (n := ⟨18, [], none⟩) (fun _ _ => rfl) ?_ ha9
  refine C_seq ?_
  refine C_region ?_
  refine V_y (Y_move rfl) rfl rfl rfl ?_
  refine V_y (Y_assign rfl) rfl rfl rfl ?_
  refine V_to (fun _ _ => rfl) ?_
  obtain rfl := Option.some.inj hm
  refine C_ret ?_
  try simp only [↓inBlock_ret, ↓then_ret]
  exact retQ rfl (Res.one Tryd.results26 rfl) ⟨rfl, rfl⟩

set_option maxRecDepth 4000 in
set_option maxHeartbeats 4000000 in
theorem route_order_1_c (w : World) {A : Nat → Prop} (hA : ∀ b, w.heap.size ≤ b → A b) (a_ : Int) (b : Int) (p2 : (List route_Work)) (b_p2 : Nat) (h_p2 : El A w b_p2 0 p2) {r : Int} (hm : route_order_1 a_ b p2 = some r) : Ret Tryd.prog 25 #[.int .i64 a_, .int .i64 b, .pointer (some ⟨b_p2, 0, none⟩)] w fun v w' => v = .int .i64 r ∧ Kp Dw w w' := by
  unfold route_order_1 at hm
  refine enter Tryd.func25 rfl Tryd.ntmps25 rfl ?_
  have hA0 := hA
  have hB := Nat.le_refl w.heap.size
  have hK : Tr Dw w.heap.size A w A w := Tr.refl (Dw := Dw) hA
  have hH : Hp w.heap.size A w [] := Hp.nil
  refine C_seq ?_
  refine C_region ?_
  refine V_y (Y_assign rfl) rfl rfl rfl ?_
  refine V_to (fun _ _ => rfl) ?_
  refine C_seq ?_
  refine C_region_def (Dw := Dw) (B := w.heap.size) (k := 8) [(6, 36, .agg #[.int .i64 0, .int .i64 0, .int .i64 0, .int .i64 0, .int .i64 0, .slice none 0 0]), (7, 36, .agg #[.int .i64 0, .int .i64 0, .int .i64 0, .int .i64 0, .int .i64 0, .slice none 0 0])] [(11, 3), (15, 7)] Tryd_mixed (by kernel_rfl) rfl ⟨⟨_, _, _, rfl, by simp⟩, Tryd.zeroValue36, ⟨⟨_, _, _, rfl, by simp⟩, Tryd.zeroValue36, trivial⟩⟩ ⟨⟨_, _, _, rfl, by decide, by decide⟩, by decide, rfl, Tryd.sizeOf36, ⟨⟨_, _, _, rfl, by decide, by decide⟩, by decide, rfl, Tryd.sizeOf36, trivial⟩⟩ rfl rfl (by decide) hH hB hA ?_
  simp only [List.take]
  obtain ⟨v7, h8, h9⟩ := El.list h_p2
  refine VQ_y (fun w' hw' => Y_load ((World.cell?_of_block (hw'.block _ (World.block_lt_of_cell? _ _ h8))).trans h8) Tryd.isAgg23 rfl) rfl rfl rfl ?_
  refine VQ_y (fun w' hw' => Y_move rfl) rfl rfl rfl ?_
  obtain ⟨x10, hx10, hm⟩ := Option.bind_eq_some_iff.1 hm
  refine VQ_indexAddr h9 hx10 Tryd.underlying23 Tryd.sizeOf36 rfl rfl rfl ?_
  intro b11 o12 h13
  obtain ⟨v14, h16, h15⟩ := El_route_Work h13
  refine VQ_y (fun w' hw' => Y_loadA (At.kp (Dw := Dw) h16 hw' h13.2.1) Tryd.isAgg36 Tryd.sizeOf36 rfl) rfl rfl rfl ?_
  obtain ⟨v17, h18, h19⟩ := El.list h_p2
  refine VQ_y (fun w' hw' => Y_load ((World.cell?_of_block (hw'.block _ (World.block_lt_of_cell? _ _ h18))).trans h18) Tryd.isAgg23 rfl) rfl rfl rfl ?_
  refine VQ_y (fun w' hw' => Y_move rfl) rfl rfl rfl ?_
  obtain ⟨x20, hx20, hm⟩ := Option.bind_eq_some_iff.1 hm
  refine VQ_indexAddr h19 hx20 Tryd.underlying23 Tryd.sizeOf36 rfl rfl rfl ?_
  intro b21 o22 h23
  obtain ⟨v24, h26, h25⟩ := El_route_Work h23
  refine VQ_y (fun w' hw' => Y_loadA (At.kp (Dw := Dw) h26 hw' h23.2.1) Tryd.isAgg36 Tryd.sizeOf36 rfl) rfl rfl rfl ?_
  have h29 : (v24).oneCell' = true := by obtain ⟨_, _, e, _⟩ := Sl.form h25; rw [e]; rfl
  have h32 : (v14).oneCell' = true := by obtain ⟨_, _, e, _⟩ := Sl.form h15; rw [e]; rfl
  refine VQ_end fun a ha => ⟨_, [.agg #[.int .i64 x10.ticket, .int .i64 x10.weight, .int .i64 x10.urgency, .int .i64 x10.since, .int .i64 x10.former, v14], .agg #[.int .i64 x20.ticket, .int .i64 x20.weight, .int .i64 x20.urgency, .int .i64 x20.since, .int .i64 x20.former, v24]], ha, rfl, rfl, ⟨rfl, (by exact (List.forall_mem_cons.2 ⟨rfl, (List.forall_mem_cons.2 ⟨rfl, (List.forall_mem_cons.2 ⟨rfl, (List.forall_mem_cons.2 ⟨rfl, (List.forall_mem_cons.2 ⟨rfl, (List.forall_mem_cons.2 ⟨h32, (fun _ h => nomatch h)⟩)⟩)⟩)⟩)⟩)⟩)), ⟨rfl, (by exact (List.forall_mem_cons.2 ⟨rfl, (List.forall_mem_cons.2 ⟨rfl, (List.forall_mem_cons.2 ⟨rfl, (List.forall_mem_cons.2 ⟨rfl, (List.forall_mem_cons.2 ⟨rfl, (List.forall_mem_cons.2 ⟨h29, (fun _ h => nomatch h)⟩)⟩)⟩)⟩)⟩)⟩)), trivial⟩⟩, fun b1 w2 A3 hH4 ht5 a ha6 => ?_⟩
  replace h_p2 := El.tr (Dw := Dw) h_p2 ht5
  replace h9 := Sl.tr (Dw := Dw) h9 ht5
  replace h13 := El.tr (Dw := Dw) h13 ht5
  replace h15 := Sl.tr (Dw := Dw) h15 ht5
  replace h19 := Sl.tr (Dw := Dw) h19 ht5
  replace h23 := El.tr (Dw := Dw) h23 ht5
  replace h25 := Sl.tr (Dw := Dw) h25 ht5
  replace hK := Tr.trans (Dw := Dw) hK ht5
  replace hB := Nat.le_trans hB ht5.ex.size
  replace hA := ht5.new
  replace hH : Hp w.heap.size A3 w2 (obC (b1 0) [.int .i64 x10.ticket, .int .i64 x10.weight, .int .i64 x10.urgency, .int .i64 x10.since, .int .i64 x10.former, v14] 36 :: obC (b1 1) [.int .i64 x20.ticket, .int .i64 x20.weight, .int .i64 x20.urgency, .int .i64 x20.since, .int .i64 x20.former, v24] 36 :: []) := hH4
  obtain ⟨A33, ht34, h35, hH36⟩ := Hp.freezeC (Dw := Dw) (α := route_Work) (x := x10) hH (i := 0) rfl hA (by exact ⟨[.int .i64 x10.ticket], _, rfl, rfl, ⟨[.int .i64 x10.weight], _, rfl, rfl, ⟨[.int .i64 x10.urgency], _, rfl, rfl, ⟨[.int .i64 x10.since], _, rfl, rfl, ⟨[.int .i64 x10.former], _, rfl, rfl, ⟨_, rfl, h15⟩⟩⟩⟩⟩⟩)
  replace h_p2 := El.tr (Dw := Dw) h_p2 ht34
  replace h9 := Sl.tr (Dw := Dw) h9 ht34
  replace h13 := El.tr (Dw := Dw) h13 ht34
  replace h15 := Sl.tr (Dw := Dw) h15 ht34
  replace h19 := Sl.tr (Dw := Dw) h19 ht34
  replace h23 := El.tr (Dw := Dw) h23 ht34
  replace h25 := Sl.tr (Dw := Dw) h25 ht34
  replace hK := Tr.trans (Dw := Dw) hK ht34
  replace hB := Nat.le_trans hB ht34.ex.size
  replace hA := ht34.new
  replace hH : Hp w.heap.size A33 w2 (obC (b1 1) [.int .i64 x20.ticket, .int .i64 x20.weight, .int .i64 x20.urgency, .int .i64 x20.since, .int .i64 x20.former, v24] 36 :: []) := hH36
  obtain ⟨A37, ht38, h39, hH40⟩ := Hp.freezeC (Dw := Dw) (α := route_Work) (x := x20) hH (i := 0) rfl hA (by exact ⟨[.int .i64 x20.ticket], _, rfl, rfl, ⟨[.int .i64 x20.weight], _, rfl, rfl, ⟨[.int .i64 x20.urgency], _, rfl, rfl, ⟨[.int .i64 x20.since], _, rfl, rfl, ⟨[.int .i64 x20.former], _, rfl, rfl, ⟨_, rfl, h25⟩⟩⟩⟩⟩⟩)
  replace h_p2 := El.tr (Dw := Dw) h_p2 ht38
  replace h9 := Sl.tr (Dw := Dw) h9 ht38
  replace h13 := El.tr (Dw := Dw) h13 ht38
  replace h15 := Sl.tr (Dw := Dw) h15 ht38
  replace h19 := Sl.tr (Dw := Dw) h19 ht38
  replace h23 := El.tr (Dw := Dw) h23 ht38
  replace h25 := Sl.tr (Dw := Dw) h25 ht38
  replace h35 := El.tr (Dw := Dw) h35 ht38
  replace hK := Tr.trans (Dw := Dw) hK ht38
  replace hB := Nat.le_trans hB ht38.ex.size
  replace hA := ht38.new
  replace hH : Hp w.heap.size A37 w2 ([]) := hH40
  refine C_at (n := ⟨33, [], none⟩) (fun _ _ => rfl) ?_ ha6
  refine C_seq ?_
  refine C_region_qt (Dw := Dw) 15 Tryd_mixed (by kernel_rfl) ?_
  simp only [List.take, List.drop]
  have h41 := El_route_Work_2 h39
  refine VQ_y (fun w' hw' => Y_fieldAddr Tryd.underlying36 rfl Tryd.sizeOf3 (by decide) rfl) rfl rfl rfl ?_
  refine VQ_y (fun w' hw' => Y_load (El.int (El.kp (Dw := Dw) h41 hw')) Tryd.isAgg3 rfl) rfl rfl rfl ?_
  have h42 := El_route_Work_2 h35
  refine VQ_y (fun w' hw' => Y_fieldAddr Tryd.underlying36 rfl Tryd.sizeOf3 (by decide) rfl) rfl rfl rfl ?_
  refine VQ_y (fun w' hw' => Y_load (El.int (El.kp (Dw := Dw) h42 hw')) Tryd.isAgg3 rfl) rfl rfl rfl ?_
  refine VQ_call (.int .i64 (cmp_Compare_int x20.urgency x10.urgency)) Tryd.call27 rfl rfl rfl rfl (fun w' hw' => (cmp_Compare_int_c w' x20.urgency x10.urgency).mono (fun _ _ h => ⟨h.1, h.2 ▸ hw'⟩)) ?_
  have h43 := El_route_Work_3 h35
  refine VQ_y (fun w' hw' => Y_fieldAddr Tryd.underlying36 rfl Tryd.sizeOf3 (by decide) rfl) rfl rfl rfl ?_
  refine VQ_y (fun w' hw' => Y_load (El.int (El.kp (Dw := Dw) h43 hw')) Tryd.isAgg3 rfl) rfl rfl rfl ?_
  have h44 := El_route_Work_3 h39
  refine VQ_y (fun w' hw' => Y_fieldAddr Tryd.underlying36 rfl Tryd.sizeOf3 (by decide) rfl) rfl rfl rfl ?_
  refine VQ_y (fun w' hw' => Y_load (El.int (El.kp (Dw := Dw) h44 hw')) Tryd.isAgg3 rfl) rfl rfl rfl ?_
  refine VQ_call (.int .i64 (cmp_Compare_int x10.since x20.since)) Tryd.call27 rfl rfl rfl rfl (fun w' hw' => (cmp_Compare_int_c w' x10.since x20.since).mono (fun _ _ h => ⟨h.1, h.2 ▸ hw'⟩)) ?_
  have h45 := El_route_Work_0 h35
  refine VQ_y (fun w' hw' => Y_fieldAddr Tryd.underlying36 rfl Tryd.sizeOf3 (by decide) rfl) rfl rfl rfl ?_
  refine VQ_y (fun w' hw' => Y_load (El.int (El.kp (Dw := Dw) h45 hw')) Tryd.isAgg3 rfl) rfl rfl rfl ?_
  have h46 := El_route_Work_0 h39
  refine VQ_y (fun w' hw' => Y_fieldAddr Tryd.underlying36 rfl Tryd.sizeOf3 (by decide) rfl) rfl rfl rfl ?_
  refine VQ_y (fun w' hw' => Y_load (El.int (El.kp (Dw := Dw) h46 hw')) Tryd.isAgg3 rfl) rfl rfl rfl ?_
  refine VQ_call (.int .i64 (cmp_Compare_int x10.ticket x20.ticket)) Tryd.call27 rfl rfl rfl rfl (fun w' hw' => (cmp_Compare_int_c w' x10.ticket x20.ticket).mono (fun _ _ h => ⟨h.1, h.2 ▸ hw'⟩)) ?_
  refine VQ_tail (fun w47 hk48 => ?_)
  try simp only [List.take, List.drop]
  have ht49 := Kp.tr (Dw := Dw) hk48 hA hB
  replace hH := Hp.kp (Dw := Dw) hH hk48
  replace h35 := El.tr (Dw := Dw) h35 ht49
  replace h39 := El.tr (Dw := Dw) h39 ht49
  replace h41 := El.tr (Dw := Dw) h41 ht49
  replace h42 := El.tr (Dw := Dw) h42 ht49
  replace h43 := El.tr (Dw := Dw) h43 ht49
  replace h44 := El.tr (Dw := Dw) h44 ht49
  replace h45 := El.tr (Dw := Dw) h45 ht49
  replace h46 := El.tr (Dw := Dw) h46 ht49
  replace hK := Tr.trans (Dw := Dw) hK ht49
  replace hB := Nat.le_trans hB ht49.ex.size
  replace hA := ht49.new
  refine V_buildSlice (Dw := Dw) (cells := #[.int .i64 (cmp_Compare_int x20.urgency x10.urgency), .int .i64 (cmp_Compare_int x10.since x20.since), .int .i64 (cmp_Compare_int x10.ticket x20.ticket)]) (l := ([(cmp_Compare_int x20.urgency x10.urgency), (cmp_Compare_int x10.since x20.since), (cmp_Compare_int x10.ticket x20.ticket)] : List Int)) (len := 3) Tryd.underlying24 Tryd.sizeOf3 Tryd.zeroValue3 rfl (by generalize ((cmp_Compare_int x20.urgency x10.urgency) : Int) = z54; generalize ((cmp_Compare_int x10.ticket x20.ticket) : Int) = z55; generalize ((cmp_Compare_int x10.since x20.since) : Int) = z56; kernel_rfl) (show (3 * 1 : Nat) ≠ 0 by decide) (show (3 * 1 : Nat) ≤ 2 ^ 24 by decide) hA ⟨[.int .i64 (cmp_Compare_int x20.urgency x10.urgency)], _, rfl, rfl, ⟨[.int .i64 (cmp_Compare_int x10.since x20.since)], _, rfl, rfl, ⟨[.int .i64 (cmp_Compare_int x10.ticket x20.ticket)], _, rfl, rfl, rfl⟩⟩⟩ rfl rfl ?_
  intro v50 w51 hk53 h52
  have ht57 := Kp.tr (Dw := Dw) hk53 hA hB
  replace hH := Hp.kp (Dw := Dw) hH hk53
  replace h35 := El.tr (Dw := Dw) h35 ht57
  replace h39 := El.tr (Dw := Dw) h39 ht57
  replace h41 := El.tr (Dw := Dw) h41 ht57
  replace h42 := El.tr (Dw := Dw) h42 ht57
  replace h43 := El.tr (Dw := Dw) h43 ht57
  replace h44 := El.tr (Dw := Dw) h44 ht57
  replace h45 := El.tr (Dw := Dw) h45 ht57
  replace h46 := El.tr (Dw := Dw) h46 ht57
  replace hK := Tr.trans (Dw := Dw) hK ht57
  replace hB := Nat.le_trans hB ht57.ex.size
  replace hA := ht57.new
  obtain ⟨x58, hx58, hm⟩ := Option.bind_eq_some_iff.1 hm
  refine V_call Tryd.call26 rfl rfl rfl rfl (cmp_Or_int_c w51 ([(cmp_Compare_int x20.urgency x10.urgency), (cmp_Compare_int x10.since x20.since), (cmp_Compare_int x10.ticket x20.ticket)] : List Int) v50 h52 hx58) ?_
  rintro _ _ ⟨rfl, rfl⟩
  refine V_y (Y_assign rfl) rfl rfl rfl ?_
  refine V_to (fun _ _ => rfl) ?_
  obtain rfl := Option.some.inj hm
  refine C_ret ?_
  try simp only [↓inBlock_ret, ↓then_ret]
  exact retQ rfl (Res.one Tryd.results25 rfl) ⟨rfl, hK.kp⟩

def Tryd_sf24_ren : Go.Shelf.Ren := ⟨fun | 6 => 24 | 14 => 41 | 15 => 42 | 20 => 48 | 21 => 49 | 22 => 50 | 23 => 51 | 24 => 52 | 25 => 53 | 26 => 54 | 27 => 55 | 28 => 56 | 29 => 57 | 46 => 59 | 47 => 60 | 48 => 61 | 49 => 62 | 50 => 63 | 57 => 71 | n => n, fun | 0 => 0 | 1 => 1 | 2 => 2 | 3 => 3 | 4 => 4 | 5 => 5 | 6 => 6 | 7 => 7 | 8 => 8 | 9 => 9 | 10 => 10 | 11 => 11 | 12 => 12 | 13 => 13 | 14 => 14 | 15 => 15 | 16 => 16 | 17 => 17 | 18 => 18 | 19 => 19 | 20 => 20 | 21 => 21 | 22 => 24 | 23 => 52 | 24 => 3 | 25 => 54 | 27 => 24 | 28 => 52 | 29 => 54 | 37 => 66 | 38 => 67 | 39 => 68 | 40 => 58 | 41 => 66 | 42 => 58 | 44 => 71 | 45 => 72 | 46 => 73 | 47 => 74 | 48 => 75 | 49 => 76 | 50 => 77 | 51 => 78 | 52 => 79 | 53 => 80 | 54 => 81 | 55 => 82 | 56 => 71 | 57 => 74 | 58 => 75 | 59 => 76 | 60 => 78 | 66 => 84 | 67 => 85 | 68 => 86 | 69 => 87 | 70 => 88 | 71 => 89 | 72 => 87 | 73 => 89 | 76 => 97 | 77 => 98 | 78 => 99 | 79 => 99 | 81 => 113 | 82 => 114 | 83 => 115 | 84 => 116 | 85 => 117 | 86 => 118 | 87 => 119 | 88 => 120 | 89 => 121 | 90 => 122 | 91 => 123 | 92 => 124 | 93 => 125 | 94 => 126 | 95 => 127 | 96 => 128 | n => n, fun n => n⟩
theorem Tryd_sf24_lay : Go.Proofs.SlLaysF.n6 Tryd.prog Tryd_sf24_ren := {
  mixed := by kernel_rfl,
  f6 := ⟨ "slices.SortFunc[[]int,int]", by kernel_rfl, Tryd.func24.trans (congrArg some (by kernel_rfl))⟩,
  f14 := ⟨ "slices.pdqsortCmpFunc[int]", by kernel_rfl, Tryd.func41.trans (congrArg some (by kernel_rfl))⟩,
  f15 := Tryd.func42.trans (congrArg some (by kernel_rfl)),
  f20 := ⟨ "slices.insertionSortCmpFunc[int]", by kernel_rfl, Tryd.func48.trans (congrArg some (by kernel_rfl))⟩,
  f21 := ⟨ "slices.heapSortCmpFunc[int]", by kernel_rfl, Tryd.func49.trans (congrArg some (by kernel_rfl))⟩,
  f22 := ⟨ "slices.breakPatternsCmpFunc[int]", by kernel_rfl, Tryd.func50.trans (congrArg some (by kernel_rfl))⟩,
  f23 := ⟨ "slices.choosePivotCmpFunc[int]", by kernel_rfl, Tryd.func51.trans (congrArg some (by kernel_rfl))⟩,
  f24 := ⟨ "slices.reverseRangeCmpFunc[int]", by kernel_rfl, Tryd.func52.trans (congrArg some (by kernel_rfl))⟩,
  f25 := ⟨ "slices.partialInsertionSortCmpFunc[int]", by kernel_rfl, Tryd.func53.trans (congrArg some (by kernel_rfl))⟩,
  f26 := ⟨ "slices.partitionEqualCmpFunc[int]", by kernel_rfl, Tryd.func54.trans (congrArg some (by kernel_rfl))⟩,
  f27 := ⟨ "slices.partitionCmpFunc[int]", by kernel_rfl, Tryd.func55.trans (congrArg some (by kernel_rfl))⟩,
  f28 := Tryd.func56.trans (congrArg some (by kernel_rfl)),
  f29 := Tryd.func57.trans (congrArg some (by kernel_rfl)),
  f46 := ⟨ "slices.siftDownCmpFunc[int]", by kernel_rfl, Tryd.func59.trans (congrArg some (by kernel_rfl))⟩,
  f47 := Tryd.func60.trans (congrArg some (by kernel_rfl)),
  f48 := Tryd.func61.trans (congrArg some (by kernel_rfl)),
  f49 := ⟨ "slices.medianAdjacentCmpFunc[int]", by kernel_rfl, Tryd.func62.trans (congrArg some (by kernel_rfl))⟩,
  f50 := ⟨ "slices.medianCmpFunc[int]", by kernel_rfl, Tryd.func63.trans (congrArg some (by kernel_rfl))⟩,
  f57 := ⟨ "slices.order2CmpFunc[int]", by kernel_rfl, Tryd.func71.trans (congrArg some (by kernel_rfl))⟩,
  t0 := Tryd.underlying0,
  a0 := Tryd.isAgg0,
  z0 := Tryd.sizeOf0,
  v0 := Tryd.zeroValue0,
  t3 := Tryd.underlying3,
  a3 := Tryd.isAgg3,
  z3 := Tryd.sizeOf3,
  v3 := Tryd.zeroValue3,
  t4 := Tryd.underlying4,
  a4 := Tryd.isAgg4,
  z4 := Tryd.sizeOf4,
  v4 := Tryd.zeroValue4,
  t5 := Tryd.underlying5,
  a5 := Tryd.isAgg5,
  z5 := Tryd.sizeOf5,
  v5 := Tryd.zeroValue5,
  t9 := Tryd.underlying9,
  a9 := Tryd.isAgg9,
  z9 := Tryd.sizeOf9,
  v9 := Tryd.zeroValue9,
  t22 := Tryd.underlying24,
  a22 := Tryd.isAgg24,
  z22 := Tryd.sizeOf24,
  v22 := Tryd.zeroValue24,
  a24 := Tryd.isAgg3,
  z24 := Tryd.sizeOf3,
  t25 := Tryd.underlying54,
  a25 := Tryd.isAgg54,
  z25 := Tryd.sizeOf54,
  v25 := Tryd.zeroValue54,
  t39 := Tryd.underlying68,
  a39 := Tryd.isAgg68,
  z39 := Tryd.sizeOf68,
  v39 := Tryd.zeroValue68,
  t45 := Tryd.underlying72,
  a45 := Tryd.isAgg72,
  z45 := Tryd.sizeOf72,
  v45 := Tryd.zeroValue72,
  t46 := Tryd.underlying73,
  a46 := Tryd.isAgg73,
  z46 := Tryd.sizeOf73,
  v46 := Tryd.zeroValue73,
  t50 := Tryd.underlying77,
  a50 := Tryd.isAgg77,
  z50 := Tryd.sizeOf77,
  v50 := Tryd.zeroValue77,
  t53 := Tryd.underlying80,
  a53 := Tryd.isAgg80,
  z53 := Tryd.sizeOf80,
  v53 := Tryd.zeroValue80,
  t55 := Tryd.underlying82,
  a55 := Tryd.isAgg82,
  z55 := Tryd.sizeOf82,
  v55 := Tryd.zeroValue82,
  t66 := Tryd.underlying84,
  a66 := Tryd.isAgg84,
  z66 := Tryd.sizeOf84,
  v66 := Tryd.zeroValue84,
  t70 := Tryd.underlying88,
  a70 := Tryd.isAgg88,
  z70 := Tryd.sizeOf88,
  v70 := Tryd.zeroValue88,
  t76 := Tryd.underlying97,
  a76 := Tryd.isAgg97,
  z76 := Tryd.sizeOf97,
  v76 := Tryd.zeroValue97,
  t77 := Tryd.underlying98,
  a77 := Tryd.isAgg98,
  z77 := Tryd.sizeOf98,
  v77 := Tryd.zeroValue98 }
theorem Tryd_sf24 {cmp : Int → Int → Option Int} {l r : List Int} {g : FuncId} {cb : Array Value} {B : Nat} {A : Nat → Prop} {w : World} {L : List Ob} {i : Nat} {v : Value} (eg : ∀ (args : Array Value) (w : World), (callFunc g args).run Tryd.prog w = .ok (.enter g args) w) (hcl : ∀ (w1 : World), Tr True B A w A w1 → (∀ b, w1.heap.size ≤ b → A b) → ∀ (x y c : Int), cmp x y = some c → Ret Tryd.prog g (#[.int .i64 x, .int .i64 y] ++ cb) w1 fun v w' => v = .int .i64 c ∧ Kp True w1 w') (hH : Hp B A w L) (hi : L[i]? = some (obS (α := Int) 3 v l)) (hB : B ≤ w.heap.size) (hA : ∀ b, w.heap.size ≤ b → A b) (hr : sortFuncL cmp l = some r) : Ret Tryd.prog 24 #[v, .func (.func g) #[] cb] w fun u w' => u = .tuple #[] ∧ Hp B A w' (L.set i (obS (α := Int) 3 v r)) ∧ Tr Dw B A w A w' :=
  Hp.sortFunc1 (Dw := Dw) (fun p c w => Go.Proofs.AnyF.slices_SortFunc_none { Tryd_sf24_lay with } p c _ w) (fun enc hone cf hO blk off cap d w hc hh hb hs => Go.Proofs.Any.slices_SortFunc Tryd_sf24_lay enc hone cf hO g cb blk off cap d w eg hc hh hb hs) hcl hH hi hB hA hr

set_option maxRecDepth 4000 in
set_option maxHeartbeats 4000000 in
theorem route_order_c (w : World) {A : Nat → Prop} (hA : ∀ b, w.heap.size ≤ b → A b) (l : (List route_Work)) (v_l : Value) (h_l : Sl A w v_l l) {r : (List Int)} (hm : route_order l = some r) : Ret Tryd.prog 12 #[v_l] w fun v w' => ∃ s0, v = s0 ∧ Ownd 3 w w' s0 r ∧ Kp Dw w w' := by
  unfold route_order at hm
  refine enter Tryd.func12 rfl Tryd.ntmps12 rfl ?_
  have hA0 := hA
  have hB := Nat.le_refl w.heap.size
  have hK : Tr Dw w.heap.size A w A w := Tr.refl (Dw := Dw) hA
  have hH : Hp w.heap.size A w [] := Hp.nil
  refine C_seq ?_
  refine C_region ?_
  refine V_box rfl rfl ?_
  intro b3 w4 h5
  have h10 : (v_l).oneCell' = true := by obtain ⟨_, _, e, _⟩ := Sl.form h_l; rw [e]; rfl
  have hk7 := h5.kp (Dw := Dw)
  have h6 : El (α := (List route_Work)) A w4 b3 0 l := h5.el hA (by rw [Value.cells_one h10]; exact ⟨_, rfl, h_l⟩)
  have ht11 := Kp.tr (Dw := Dw) hk7 hA hB
  replace hH := Hp.kp (Dw := Dw) hH hk7
  replace h_l := Sl.tr (Dw := Dw) h_l ht11
  replace hK := Tr.trans (Dw := Dw) hK ht11
  replace hB := Nat.le_trans hB ht11.ex.size
  replace hA := ht11.new
  refine V_y (Y_assign rfl) rfl rfl rfl ?_
  refine V_to (fun _ _ => rfl) ?_
  refine C_seq ?_
  refine C_region ?_
  refine V_y (Y_assign rfl) rfl rfl rfl ?_
  refine V_to (fun _ _ => rfl) ?_
  refine C_seq ?_
  refine C_seq ?_
  refine C_region ?_
  obtain ⟨v12, h13, h14⟩ := El.list h6
  refine V_y (Y_load h13 Tryd.isAgg23 rfl) rfl rfl rfl ?_
  have hn15 := Sl.le h14
  refine V_y (Y_lenSl h14 rfl Tryd.underlying23 rfl) rfl rfl rfl ?_
  refine V_y (Y_move rfl) rfl rfl rfl ?_
  refine V_to (fun _ _ => rfl) ?_
  replace hH : Hp w.heap.size A w4 (obS (α := Int) 3 (.slice none 0 0) ([] : (List Int)) :: []) := Hp.addNil (α := Int) (e := 3) hH
  obtain ⟨o16, ho16, hm⟩ := Option.bind_eq_some_iff.1 hm
  refine C_cutG (ι := ((List Int) × Value × (Nat → Prop))) (fun ⟨s17, v23, A25⟩ => [(1, .pointer (some ⟨b3, 0, none⟩)), (3, v23)]) (fun ⟨s17, v23, A25⟩ => fun w' => o16 = .fin s17 ∧ Hp w.heap.size A25 w' (obS (α := Int) 3 v23 s17 :: []) ∧ Tr Dw w.heap.size A w4 A25 w') ?_ ?_
  · refine C_block ?_
    refine C_range ho16 (fun k19 s27 a w' => ∃ i : (Value × (Nat → Prop)), Has ⟨19, [], none⟩ a ([(1, .pointer (some ⟨b3, 0, none⟩)), (3, i.1), (6, .int .i64 (l.length : Int)), (7, .int .i64 (k19 : Int))]) ∧ Hp w.heap.size i.2 w' (obS (α := Int) 3 i.1 s27 :: []) ∧ Tr Dw w.heap.size A w4 i.2 w') (fun a ha => ⟨(.slice none 0 0, A), ha.sub ⟨rfl, rfl, rfl, rfl, trivial⟩, ⟨hH, Tr.refl (Dw := Dw) hA⟩⟩) ?_
    rintro K k19 s27 a w28 ⟨⟨v29, A31⟩, ha56, hH32, hr18⟩ hle36 K39 h38
    refine C_of ?_ ha56
    replace h6 := El.tr (Dw := Dw) h6 hr18
    replace hK := Tr.trans (Dw := Dw) hK hr18
    replace hB := Nat.le_trans hB hr18.ex.size
    replace hA := hr18.new
    replace hH : Hp w.heap.size A31 w28 (obS (α := Int) 3 v29 s27 :: []) := hH32
    refine C_seq (C_region (V_y (Y_lss rfl rfl) rfl rfl rfl (V_to (fun _ _ => rfl) ?_)))
    refine C_seq ?_
    refine C_cond rfl (fun hc41 => ?_) (fun hc41 => ?_)
    · have hlt37 := lt_of_dec hc41
      obtain ⟨x33, h34, h35⟩ := K39 hlt37
      refine C_skip_to (fun _ _ => rfl) ?_
      refine C_seq ?_
      refine C_block ?_
      refine C_seq ?_
      refine C_region ?_
      refine V_y (Y_move rfl) rfl rfl rfl ?_
      refine V_y (Y_assign rfl) rfl rfl rfl ?_
      refine V_to (fun _ _ => rfl) ?_
      refine C_region ?_
      refine V_y (Y_move rfl) rfl rfl rfl ?_
      refine V_y (Y_move rfl) rfl rfl rfl ?_
      refine V_buildSlice (Dw := Dw) (cells := #[.int .i64 (k19 : Int)]) (l := ([(k19 : Int)] : List Int)) (len := 1) Tryd.underlying24 Tryd.sizeOf3 Tryd.zeroValue3 rfl (by generalize ((k19 : Int) : Int) = z46; kernel_rfl) (show (1 * 1 : Nat) ≠ 0 by decide) (show (1 * 1 : Nat) ≤ 2 ^ 24 by decide) hA ⟨[.int .i64 (k19 : Int)], _, rfl, rfl, rfl⟩ rfl rfl ?_
      intro v42 w43 hk45 h44
      have ht47 := Kp.tr (Dw := Dw) hk45 hA hB
      replace hH := Hp.kp (Dw := Dw) hH hk45
      replace h6 := El.tr (Dw := Dw) h6 ht47
      replace hK := Tr.trans (Dw := Dw) hK ht47
      replace hr18 := Tr.trans (Dw := Dw) hr18 ht47
      replace hB := Nat.le_trans hB ht47.ex.size
      replace hA := ht47.new
      obtain ⟨x48, hx48, h34⟩ := Option.bind_eq_some_iff.1 h34
      refine V_appendH (Dw := Dw) (e := 3) (v := v29) (l := s27) (ti := Tryd.t3) (bytes := 8) (lim := 17592186044416) hH (i := 0) rfl h44 hx48 Tryd.underlying24 Tryd_info3 rfl rfl rfl rfl (by decide) (by decide) (by decide) hB hA rfl rfl rfl ?_
      intro v49 w50 A51 hH52 ht53
      replace h6 := El.tr (Dw := Dw) h6 ht53
      replace h44 := Sl.tr (Dw := Dw) h44 ht53
      replace hK := Tr.trans (Dw := Dw) hK ht53
      replace hr18 := Tr.trans (Dw := Dw) hr18 ht53
      replace hB := Nat.le_trans hB ht53.ex.size
      replace hA := ht53.new
      replace hH : Hp w.heap.size A51 w50 (obS (α := Int) 3 v49 x48 :: []) := hH52
      refine V_y (Y_assign rfl) rfl rfl rfl ?_
      refine V_to (fun _ _ => rfl) ?_
      refine C_region ?_
      refine V_y (Y_addI rfl rfl) rfl rfl rfl ?_
      refine V_y (Y_move rfl) rfl rfl rfl ?_
      obtain rfl := Option.some.inj h34
      refine V_end (fun a ha54 => ?_)
      exact ⟨x48, hlt37, h35, ⟨(v49, A51), ha54.sub ⟨rfl, rfl, rfl, (congrArg (fun z => some (Value.int .i64 z)) (w64_succ hlt37 hn15)), trivial⟩, ⟨hH, hr18⟩⟩⟩
    · refine C_exit (fun a ha55 => ?_)
      exact ⟨(s27, v29, A31), ha55.sub ⟨rfl, rfl, trivial⟩, ⟨(h38 (eq_of_dec hle36 hc41)).symm, hH, hr18⟩⟩
  rintro ⟨s17, v23, A25⟩ w20 ⟨rfl, hH26, hk21⟩ a ha22
  rw [Lp.andThen_fin] at hm
  replace h6 := El.tr (Dw := Dw) h6 hk21
  replace hK := Tr.trans (Dw := Dw) hK hk21
  replace hB := Nat.le_trans hB hk21.ex.size
  replace hA := hk21.new
  replace hH : Hp w.heap.size A25 w20 (obS (α := Int) 3 v23 s17 :: []) := hH26
  refine C_at (n := ⟨19, [], none⟩) (fun _ _ => rfl) ?_ ha22
  refine C_seq ?_
  refine C_region ?_
  refine V_y (Y_move rfl) rfl rfl rfl ?_
  refine V_y (Y_makeFunc rfl rfl) rfl rfl rfl ?_
  obtain ⟨x57, hx57, hm⟩ := Option.bind_eq_some_iff.1 hm
  refine V_call Tryd.call24 rfl rfl rfl rfl (Tryd_sf24 (Dw := Dw) Tryd.call25 (fun w63 ht64 h65 p67 q68 c69 h66 => by exact (route_order_1_c (Dw := True) w63 h65 p67 q68 l b3 (El.tr (Dw := True) h6 ht64) h66).mono fun _ _ h => ⟨h.1, h.2⟩) hH (i := 0) rfl hB hA hx57) ?_
  rintro _ w58 ⟨rfl, hH59, ht60⟩
  replace h6 := El.tr (Dw := Dw) h6 ht60
  replace hK := Tr.trans (Dw := Dw) hK ht60
  replace hB := Nat.le_trans hB ht60.ex.size
  replace hA := ht60.new
  replace hH : Hp w.heap.size A25 w58 (obS (α := Int) 3 v23 x57 :: []) := hH59
  refine V_to (fun _ _ => rfl) ?_
  refine C_seq ?_
  refine C_region ?_
  refine V_y (Y_move rfl) rfl rfl rfl ?_
  refine V_y (Y_assign rfl) rfl rfl rfl ?_
  refine V_to (fun _ _ => rfl) ?_
  obtain rfl := Option.some.inj hm
  refine C_ret ?_
  try simp only [↓inBlock_ret, ↓then_ret]
  exact retQ rfl (Res.one Tryd.results12 rfl) ⟨v23, rfl, (Hp.ownd hH (i := 0) rfl), hK.kp⟩

set_option maxRecDepth 4000 in
set_option maxHeartbeats 4000000 in
theorem slices_IndexFunc_Lroute_Skill_route_Skill_c (w : World) {A : Nat → Prop} (hA : ∀ b, w.heap.size ≤ b → A b) (s : (List route_Skill)) (v_s : Value) (h_s : Sl A w v_s s) (f : route_Skill → Option Bool) (f_f : FuncId) (f_a f_c : Array Value) (f_call : ∀ (args : Array Value) (w : World), (callFunc f_f args).run Tryd.prog w = .ok (.enter f_f args) w) (f_spec : ∀ (w1 : World) (A1 : Nat → Prop), Tr Dw w.heap.size A w A1 w1 → (∀ b, w1.heap.size ≤ b → A1 b) → ∀ (y0 : route_Skill) (r : Bool), f y0 = some r → Ret Tryd.prog f_f (f_a ++ #[.agg #[.string y0.name, .int .i64 y0.rank]] ++ f_c) w1 fun v w' => v = .bool r ∧ Kp Dw w1 w') {r : Int} (hm : slices_IndexFunc_Lroute_Skill_route_Skill s f = some r) : Ret Tryd.prog 47 #[v_s, .func (.func f_f) f_a f_c] w fun v w' => v = .int .i64 r ∧ Kp Dw w w' := by
  unfold slices_IndexFunc_Lroute_Skill_route_Skill at hm
  refine enter Tryd.func47 rfl Tryd.ntmps47 rfl ?_
  have hA0 := hA
  have hB := Nat.le_refl w.heap.size
  have hK : Tr Dw w.heap.size A w A w := Tr.refl (Dw := Dw) hA
  have hH : Hp w.heap.size A w [] := Hp.nil
  refine C_seq ?_
  refine C_region ?_
  refine V_y (Y_assign rfl) rfl rfl rfl ?_
  refine V_to (fun _ _ => rfl) ?_
  refine C_seq ?_
  refine C_seq ?_
  refine C_region ?_
  refine V_y (Y_move rfl) rfl rfl rfl ?_
  refine V_y (Y_lenSl h_s rfl Tryd.underlying34 rfl) rfl rfl rfl ?_
  refine V_y (Y_move rfl) rfl rfl rfl ?_
  refine V_to (fun _ _ => rfl) ?_
  have hn23 := Sl.le h_s
  obtain ⟨o3, ho3, hm⟩ := Option.bind_eq_some_iff.1 hm
  refine C_cutG (ι := (Unit × (Nat → Prop))) (fun ⟨s4, A10⟩ => []) (fun ⟨s4, A10⟩ => fun w' => o3 = .fin s4 ∧ Hp w.heap.size A10 w' ([]) ∧ Tr Dw w.heap.size A w A10 w') ?_ ?_
  · refine C_block ?_
    refine C_range ho3 (fun k6 _ a w' => ∃ i : (Nat → Prop), Has ⟨19, [], none⟩ a ([(0, v_s), (1, .func (.func f_f) f_a f_c), (7, .int .i64 (s.length : Int)), (8, .int .i64 (k6 : Int))]) ∧ Hp w.heap.size i w' ([]) ∧ Tr Dw w.heap.size A w i w') (fun a ha => ⟨A, ha.sub ⟨rfl, rfl, rfl, rfl, trivial⟩, ⟨hH, Tr.refl (Dw := Dw) hA⟩⟩) ?_
    rintro K k6 _ a w13 ⟨A14, ha37, hH15, hr5⟩ hle19 K22 h21
    refine C_of ?_ ha37
    replace h_s := Sl.tr (Dw := Dw) h_s hr5
    replace hK := Tr.trans (Dw := Dw) hK hr5
    replace hB := Nat.le_trans hB hr5.ex.size
    replace hA := hr5.new
    replace hH : Hp w.heap.size A14 w13 ([]) := hH15
    refine C_seq (C_region (V_y (Y_lss rfl rfl) rfl rfl rfl (V_to (fun _ _ => rfl) ?_)))
    refine C_seq ?_
    refine C_cond rfl (fun hc24 => ?_) (fun hc24 => ?_)
    · have hlt20 := lt_of_dec hc24
      obtain ⟨x16, h17, h18⟩ := K22 hlt20
      refine C_skip_to (fun _ _ => rfl) ?_
      refine C_seq ?_
      refine C_block ?_
      refine C_seq ?_
      refine C_region ?_
      refine V_y (Y_move rfl) rfl rfl rfl ?_
      refine V_y (Y_assign rfl) rfl rfl rfl ?_
      refine V_to (fun _ _ => rfl) ?_
      refine C_seq ?_
      refine C_region ?_
      refine V_y (Y_move rfl) rfl rfl rfl ?_
      refine V_y (Y_move rfl) rfl rfl rfl ?_
      refine V_y (Y_move rfl) rfl rfl rfl ?_
      obtain ⟨x25, hx25, h17⟩ := Option.bind_eq_some_iff.1 h17
      refine V_indexAddr h_s hx25 Tryd.underlying34 Tryd.sizeOf62 rfl rfl rfl ?_
      intro b26 o27 h28
      obtain ⟨h29, _⟩ := El_route_Skill h28
      refine V_y (Y_loadA h29 Tryd.isAgg62 Tryd.sizeOf62 rfl) rfl rfl rfl ?_
      obtain ⟨x30, hx30, h17⟩ := Option.bind_eq_some_iff.1 h17
      refine V_call f_call rfl rfl rfl rfl (f_spec w13 _ hK hA x25 _ hx30) ?_
      rintro _ w31 ⟨rfl, hk32⟩
      have ht33 := Kp.tr (Dw := Dw) hk32 hA hB
      replace hH := Hp.kp (Dw := Dw) hH hk32
      replace h_s := Sl.tr (Dw := Dw) h_s ht33
      replace h28 := El.tr (Dw := Dw) h28 ht33
      replace hK := Tr.trans (Dw := Dw) hK ht33
      replace hr5 := Tr.trans (Dw := Dw) hr5 ht33
      replace hB := Nat.le_trans hB ht33.ex.size
      replace hA := ht33.new
      refine V_to (fun _ _ => rfl) ?_
      refine C_cond rfl (fun hc34 => ?_) (fun hc34 => ?_)
      · rw [if_pos hc34] at h17
        refine C_seq ?_
        refine C_region ?_
        refine V_y (Y_move rfl) rfl rfl rfl ?_
        refine V_y (Y_assign rfl) rfl rfl rfl ?_
        refine V_to (fun _ _ => rfl) ?_
        obtain rfl := Option.some.inj h17
        obtain rfl := (h18 : Lp.rt _ = _)
        rw [Lp.andThen_rt] at hm
        obtain rfl := Option.some.inj hm
        refine C_ret ?_
        try simp only [↓inBlock_ret, ↓then_ret]
        exact retQ rfl (Res.one Tryd.results47 rfl) ⟨rfl, hK.kp⟩
      · rw [if_neg (nt hc34)] at h17
        refine C_skip_to (fun _ _ => rfl) ?_
        refine C_region ?_
        refine V_y (Y_addI rfl rfl) rfl rfl rfl ?_
        refine V_y (Y_move rfl) rfl rfl rfl ?_
        obtain rfl := Option.some.inj h17
        refine V_end (fun a ha35 => ?_)
        exact ⟨(), hlt20, h18, ⟨A14, ha35.sub ⟨rfl, rfl, rfl, (congrArg (fun z => some (Value.int .i64 z)) (w64_succ hlt20 hn23)), trivial⟩, ⟨hH, hr5⟩⟩⟩
    · refine C_exit (fun a ha36 => ?_)
      exact ⟨((), A14), ha36.sub trivial, ⟨(h21 (eq_of_dec hle19 hc24)).symm, hH, hr5⟩⟩
  rintro ⟨s4, A10⟩ w7 ⟨rfl, hH11, hk8⟩ a ha9
  rw [Lp.andThen_fin] at hm
  replace hK := Tr.trans (Dw := Dw) hK hk8
  replace hB := Nat.le_trans hB hk8.ex.size
  replace hA := hk8.new
  replace hH : Hp w.heap.size A10 w7 ([]) := hH11
  refine C_at (n := ⟨19, [], none⟩) (fun _ _ => rfl) ?_ ha9
  refine C_seq ?_
  refine C_region ?_
  refine V_y (Y_assign rfl) rfl rfl rfl ?_
  refine V_to (fun _ _ => rfl) ?_
  obtain rfl := Option.some.inj hm
  refine C_ret ?_
  try simp only [↓inBlock_ret, ↓then_ret]
  exact retQ rfl (Res.one Tryd.results47 rfl) ⟨rfl, hK.kp⟩

set_option maxRecDepth 4000 in
set_option maxHeartbeats 4000000 in
theorem slices_ContainsFunc_Lroute_Skill_route_Skill_c (w : World) {A : Nat → Prop} (hA : ∀ b, w.heap.size ≤ b → A b) (s : (List route_Skill)) (v_s : Value) (h_s : Sl A w v_s s) (f : route_Skill → Option Bool) (f_f : FuncId) (f_a f_c : Array Value) (f_call : ∀ (args : Array Value) (w : World), (callFunc f_f args).run Tryd.prog w = .ok (.enter f_f args) w) (f_spec : ∀ (w1 : World) (A1 : Nat → Prop), Tr Dw w.heap.size A w A1 w1 → (∀ b, w1.heap.size ≤ b → A1 b) → ∀ (y0 : route_Skill) (r : Bool), f y0 = some r → Ret Tryd.prog f_f (f_a ++ #[.agg #[.string y0.name, .int .i64 y0.rank]] ++ f_c) w1 fun v w' => v = .bool r ∧ Kp Dw w1 w') {r : Bool} (hm : slices_ContainsFunc_Lroute_Skill_route_Skill s f = some r) : Ret Tryd.prog 38 #[v_s, .func (.func f_f) f_a f_c] w fun v w' => v = .bool r ∧ Kp Dw w w' := by
  unfold slices_ContainsFunc_Lroute_Skill_route_Skill at hm
  refine enter Tryd.func38 rfl Tryd.ntmps38 rfl ?_
  have hA0 := hA
  have hB := Nat.le_refl w.heap.size
  have hK : Tr Dw w.heap.size A w A w := Tr.refl (Dw := Dw) hA
  have hH : Hp w.heap.size A w [] := Hp.nil
  refine C_seq ?_
  refine C_region ?_
  refine V_y (Y_assign rfl) rfl rfl rfl ?_
  refine V_to (fun _ _ => rfl) ?_
  refine C_seq ?_
  refine C_region ?_
  refine V_y (Y_move rfl) rfl rfl rfl ?_
  refine V_y (Y_move rfl) rfl rfl rfl ?_
  obtain ⟨x3, hx3, hm⟩ := Option.bind_eq_some_iff.1 hm
  refine V_call Tryd.call47 rfl rfl rfl rfl (slices_IndexFunc_Lroute_Skill_route_Skill_c (Dw := Dw) w hA s v_s h_s f f_f f_a f_c f_call (fun w1 A1 ht => f_spec w1 A1 (Tr.trans (Dw := Dw) hK (Tr.lower (Dw := Dw) ht hB))) hx3) ?_
  rintro _ w4 ⟨rfl, hk5⟩
  have ht6 := Kp.tr (Dw := Dw) hk5 hA hB
  replace hH := Hp.kp (Dw := Dw) hH hk5
  replace h_s := Sl.tr (Dw := Dw) h_s ht6
  replace hK := Tr.trans (Dw := Dw) hK ht6
  replace hB := Nat.le_trans hB ht6.ex.size
  replace hA := ht6.new
  refine V_y (Y_geq rfl rfl) rfl rfl rfl ?_
  refine V_y (Y_assign rfl) rfl rfl rfl ?_
  refine V_to (fun _ _ => rfl) ?_
  obtain rfl := Option.some.inj hm
  refine C_ret ?_
  try simp only [↓inBlock_ret, ↓then_ret]
  exact retQ rfl (Res.one Tryd.results38 rfl) ⟨rfl, hK.kp⟩

set_option maxRecDepth 4000 in
set_option maxHeartbeats 4000000 in
theorem route_Person_able_1_c (w : World) {A : Nat → Prop} (hA : ∀ b, w.heap.size ≤ b → A b) (s : route_Skill) (p1 : route_Skill) (b_p1 : Nat) (h_p1 : El A w b_p1 0 p1) {r : Bool} (hm : route_Person_able_1 s p1 = some r) : Ret Tryd.prog 44 #[.agg #[.string s.name, .int .i64 s.rank], .pointer (some ⟨b_p1, 0, none⟩)] w fun v w' => v = .bool r ∧ Kp Dw w w' := by
  unfold route_Person_able_1 at hm
  refine enter Tryd.func44 rfl Tryd.ntmps44 rfl ?_
  have hA0 := hA
  have hB := Nat.le_refl w.heap.size
  have hK : Tr Dw w.heap.size A w A w := Tr.refl (Dw := Dw) hA
  have hH : Hp w.heap.size A w [] := Hp.nil
  refine C_seq ?_
  refine C_region ?_
  refine V_box rfl rfl ?_
  intro b1 w2 h3
  have hk5 := h3.kp (Dw := Dw)
  have h4 : El (α := route_Skill) A w2 b1 0 s := h3.el hA ⟨[.string s.name], _, rfl, rfl, rfl⟩
  have ht6 := Kp.tr (Dw := Dw) hk5 hA hB
  replace hH := Hp.kp (Dw := Dw) hH hk5
  replace h_p1 := El.tr (Dw := Dw) h_p1 ht6
  replace hK := Tr.trans (Dw := Dw) hK ht6
  replace hB := Nat.le_trans hB ht6.ex.size
  replace hA := ht6.new
  refine V_y (Y_assign rfl) rfl rfl rfl ?_
  refine V_to (fun _ _ => rfl) ?_
  refine C_seq ?_
  refine C_region ?_
  have h7 := El_route_Skill_0 h4
  refine V_y (Y_fieldAddr Tryd.underlying62 rfl Tryd.sizeOf9 (by decide) rfl) rfl rfl rfl ?_
  refine V_y (Y_load (El.str h7) Tryd.isAgg9 rfl) rfl rfl rfl ?_
  have h8 := El_route_Skill_0 h_p1
  refine V_y (Y_fieldAddr Tryd.underlying62 rfl Tryd.sizeOf9 (by decide) rfl) rfl rfl rfl ?_
  refine V_y (Y_load (El.str h8) Tryd.isAgg9 rfl) rfl rfl rfl ?_
  refine V_y (Y_seql rfl rfl) rfl rfl rfl ?_
  refine V_y (Y_move rfl) rfl rfl rfl ?_
  refine V_cut 6 (fun _ : Unit => [(15, .bool ((strEq s.name p1.name) && (decide (p1.rank ≤ s.rank))))]) (fun _ w' => w2 = w') ?_ ?_
  · simp only [List.take, List.drop]
    rcases Bool.eq_false_or_eq_true (strEq s.name p1.name) with hc9 | hc9
    · refine V_ge rfl rfl rfl hc9 ?_
      have h11 := El_route_Skill_1 h4
      refine V_y (Y_fieldAddr Tryd.underlying62 rfl Tryd.sizeOf3 (by decide) rfl) rfl rfl rfl ?_
      refine V_ge rfl rfl rfl hc9 ?_
      refine V_y (Y_load (El.int h11) Tryd.isAgg3 rfl) rfl rfl rfl ?_
      refine V_ge rfl rfl rfl hc9 ?_
      have h12 := El_route_Skill_1 h_p1
      refine V_y (Y_fieldAddr Tryd.underlying62 rfl Tryd.sizeOf3 (by decide) rfl) rfl rfl rfl ?_
      refine V_ge rfl rfl rfl hc9 ?_
      refine V_y (Y_load (El.int h12) Tryd.isAgg3 rfl) rfl rfl rfl ?_
      refine V_ge rfl rfl rfl hc9 ?_
      refine V_y (Y_geq rfl rfl) rfl rfl rfl ?_
      refine V_y (Y_pick_te rfl hc9 rfl) rfl rfl rfl ?_
      exact V_end fun a ha => ⟨(), ha.sub ⟨(by rw [hc9]; rfl), trivial⟩, rfl⟩
    · refine V_gn rfl rfl rfl hc9 rfl rfl rfl ?_
      refine V_gn rfl rfl rfl hc9 rfl rfl rfl ?_
      refine V_gn rfl rfl rfl hc9 rfl rfl rfl ?_
      refine V_gn rfl rfl rfl hc9 rfl rfl rfl ?_
      refine V_gn rfl rfl rfl hc9 rfl rfl rfl ?_
      refine V_y (Y_pick_fe rfl hc9 rfl) rfl rfl rfl ?_
      exact V_end fun a ha => ⟨(), ha.sub ⟨(by rw [hc9]; rfl), trivial⟩, rfl⟩
  simp only [List.take, List.drop]
  rintro _ _ rfl
  refine V_y (Y_assign rfl) rfl rfl rfl ?_
  refine V_to (fun _ _ => rfl) ?_
  obtain rfl := Option.some.inj hm
  refine C_ret ?_
  try simp only [↓inBlock_ret, ↓then_ret]
  exact retQ rfl (Res.one Tryd.results44 rfl) ⟨rfl, hK.kp⟩

set_option maxRecDepth 4000 in
set_option maxHeartbeats 4000000 in
theorem route_Person_able_c (w : World) {A : Nat → Prop} (hA : ∀ b, w.heap.size ≤ b → A b) (p : route_Person) (v_p : Value) (h_p : Sl A w v_p p.skills) (needs : (List route_Skill)) (v_needs : Value) (h_needs : Sl A w v_needs needs) {r : Bool} (hm : route_Person_able p needs = some r) : Ret Tryd.prog 28 #[.agg #[.int .i64 p.no, .int .i64 p.capacity, .int .i64 p.calendar, v_p], v_needs] w fun v w' => v = .bool r ∧ Kp Dw w w' := by
  unfold route_Person_able at hm
  refine enter Tryd.func28 rfl Tryd.ntmps28 rfl ?_
  have hA0 := hA
  have hB := Nat.le_refl w.heap.size
  have hK : Tr Dw w.heap.size A w A w := Tr.refl (Dw := Dw) hA
  have hH : Hp w.heap.size A w [] := Hp.nil
  refine C_seq ?_
  refine C_region ?_
  refine V_box rfl rfl ?_
  intro b5 w6 h7
  have hk9 := h7.kp (Dw := Dw)
  have h8 : El (α := route_Person) A w6 b5 0 p := h7.el hA ⟨[.int .i64 p.no], _, rfl, rfl, ⟨[.int .i64 p.capacity], _, rfl, rfl, ⟨[.int .i64 p.calendar], _, rfl, rfl, ⟨_, rfl, h_p⟩⟩⟩⟩
  have ht10 := Kp.tr (Dw := Dw) hk9 hA hB
  replace hH := Hp.kp (Dw := Dw) hH hk9
  replace h_p := Sl.tr (Dw := Dw) h_p ht10
  replace h_needs := Sl.tr (Dw := Dw) h_needs ht10
  replace hK := Tr.trans (Dw := Dw) hK ht10
  replace hB := Nat.le_trans hB ht10.ex.size
  replace hA := ht10.new
  refine V_y (Y_assign rfl) rfl rfl rfl ?_
  refine V_to (fun _ _ => rfl) ?_
  refine C_seq ?_
  refine C_seq ?_
  refine C_region ?_
  refine V_y (Y_move rfl) rfl rfl rfl ?_
  refine V_y (Y_lenSl h_needs rfl Tryd.underlying34 rfl) rfl rfl rfl ?_
  refine V_y (Y_move rfl) rfl rfl rfl ?_
  refine V_to (fun _ _ => rfl) ?_
  have hn31 := Sl.le h_needs
  obtain ⟨o11, ho11, hm⟩ := Option.bind_eq_some_iff.1 hm
  refine C_cutG (ι := (Unit × (Nat → Prop))) (fun ⟨s12, A18⟩ => []) (fun ⟨s12, A18⟩ => fun w' => o11 = .fin s12 ∧ Hp w.heap.size A18 w' ([]) ∧ Tr Dw w.heap.size A w6 A18 w') ?_ ?_
  · refine C_block ?_
    refine C_range ho11 (fun k14 _ a w' => ∃ i : (Nat → Prop), Has ⟨19, [], none⟩ a ([(2, .pointer (some ⟨b5, 0, none⟩)), (7, v_needs), (8, .int .i64 (needs.length : Int)), (9, .int .i64 (k14 : Int))]) ∧ Hp w.heap.size i w' ([]) ∧ Tr Dw w.heap.size A w6 i w') (fun a ha => ⟨A, ha.sub ⟨rfl, rfl, rfl, rfl, trivial⟩, ⟨hH, Tr.refl (Dw := Dw) hA⟩⟩) ?_
    rintro K k14 _ a w21 ⟨A22, ha66, hH23, hr13⟩ hle27 K30 h29
    refine C_of ?_ ha66
    replace h8 := El.tr (Dw := Dw) h8 hr13
    replace h_needs := Sl.tr (Dw := Dw) h_needs hr13
    replace hK := Tr.trans (Dw := Dw) hK hr13
    replace hB := Nat.le_trans hB hr13.ex.size
    replace hA := hr13.new
    replace hH : Hp w.heap.size A22 w21 ([]) := hH23
    refine C_seq (C_region (V_y (Y_lss rfl rfl) rfl rfl rfl (V_to (fun _ _ => rfl) ?_)))
    refine C_seq ?_
    refine C_cond rfl (fun hc32 => ?_) (fun hc32 => ?_)
    · have hlt28 := lt_of_dec hc32
      obtain ⟨x24, h25, h26⟩ := K30 hlt28
      refine C_skip_to (fun _ _ => rfl) ?_
      refine C_seq ?_
      refine C_block ?_
      refine C_seq ?_
      refine C_region ?_
      obtain ⟨x33, hx33, h25⟩ := Option.bind_eq_some_iff.1 h25
      refine V_indexAddr h_needs hx33 Tryd.underlying34 Tryd.sizeOf62 rfl rfl rfl ?_
      intro b34 o35 h36
      obtain ⟨h37, _⟩ := El_route_Skill h36
      refine V_y (Y_loadA h37 Tryd.isAgg62 Tryd.sizeOf62 rfl) rfl rfl rfl ?_
      refine V_alloc Tryd.zeroValue62 rfl ?_
      intro b38 w39 h40
      refine V_storeNew h40 Tryd.sizeOf62 rfl rfl rfl rfl (by exact (List.forall_mem_cons.2 ⟨rfl, (List.forall_mem_cons.2 ⟨rfl, (fun _ h => nomatch h)⟩)⟩)) ?_
      intro w41 h42
      have hk44 := h42.kp (Dw := Dw)
      have h43 : El (α := route_Skill) A22 w41 b38 0 x33 := h42.el hA ⟨[.string x33.name], _, rfl, rfl, rfl⟩
      have ht45 := Kp.tr (Dw := Dw) hk44 hA hB
      replace hH := Hp.kp (Dw := Dw) hH hk44
      replace h8 := El.tr (Dw := Dw) h8 ht45
      replace h_needs := Sl.tr (Dw := Dw) h_needs ht45
      replace h36 := El.tr (Dw := Dw) h36 ht45
      replace hK := Tr.trans (Dw := Dw) hK ht45
      replace hr13 := Tr.trans (Dw := Dw) hr13 ht45
      replace hB := Nat.le_trans hB ht45.ex.size
      replace hA := ht45.new
      refine V_to (fun _ _ => rfl) ?_
      refine C_seq ?_
      refine C_region ?_
      have h46 := El_route_Person_3 h8
      refine V_y (Y_fieldAddr Tryd.underlying43 rfl Tryd.sizeOf34 (by decide) rfl) rfl rfl rfl ?_
      obtain ⟨v47, h48, h49⟩ := El.list h46
      refine V_y (Y_load h48 Tryd.isAgg34 rfl) rfl rfl rfl ?_
      refine V_y (Y_makeFunc rfl rfl) rfl rfl rfl ?_
      obtain ⟨x51, hx51, h25⟩ := Option.bind_eq_some_iff.1 h25
      refine V_call Tryd.call38 rfl rfl rfl rfl (slices_ContainsFunc_Lroute_Skill_route_Skill_c (Dw := Dw) w41 hA p.skills v47 h49 (fun y59 => route_Person_able_1 y59 x33) 44 #[] #[.pointer (some ⟨b38, 0, none⟩)] Tryd.call44 (fun w55 A56 ht57 h58 y52 r53 h54 => (route_Person_able_1_c (Dw := Dw) w55 h58 y52 x33 b38 (El.tr (Dw := Dw) h43 ht57) h54).mono (fun _ _ h => ⟨h.1, h.2⟩)) hx51) ?_
      rintro _ w60 ⟨rfl, hk61⟩
      have ht62 := Kp.tr (Dw := Dw) hk61 hA hB
      replace hH := Hp.kp (Dw := Dw) hH hk61
      replace h8 := El.tr (Dw := Dw) h8 ht62
      replace h_needs := Sl.tr (Dw := Dw) h_needs ht62
      replace h43 := El.tr (Dw := Dw) h43 ht62
      replace h46 := El.tr (Dw := Dw) h46 ht62
      replace h49 := Sl.tr (Dw := Dw) h49 ht62
      replace hK := Tr.trans (Dw := Dw) hK ht62
      replace hr13 := Tr.trans (Dw := Dw) hr13 ht62
      replace hB := Nat.le_trans hB ht62.ex.size
      replace hA := ht62.new
      refine V_y (Y_not rfl) rfl rfl rfl ?_
      refine V_to (fun _ _ => rfl) ?_
      refine C_cond rfl (fun hc63 => ?_) (fun hc63 => ?_)
      · rw [if_pos hc63] at h25
        refine C_seq ?_
        refine C_region ?_
        refine V_y (Y_assign rfl) rfl rfl rfl ?_
        refine V_to (fun _ _ => rfl) ?_
        obtain rfl := Option.some.inj h25
        obtain rfl := (h26 : Lp.rt _ = _)
        rw [Lp.andThen_rt] at hm
        obtain rfl := Option.some.inj hm
        refine C_ret ?_
        try simp only [↓inBlock_ret, ↓then_ret]
        exact retQ rfl (Res.one Tryd.results28 rfl) ⟨rfl, hK.kp⟩
      · rw [if_neg (nt hc63)] at h25
        refine C_skip_to (fun _ _ => rfl) ?_
        refine C_region ?_
        refine V_y (Y_addI rfl rfl) rfl rfl rfl ?_
        refine V_y (Y_move rfl) rfl rfl rfl ?_
        obtain rfl := Option.some.inj h25
        refine V_end (fun a ha64 => ?_)
        exact ⟨(), hlt28, h26, ⟨A22, ha64.sub ⟨rfl, rfl, rfl, (congrArg (fun z => some (Value.int .i64 z)) (w64_succ hlt28 hn31)), trivial⟩, ⟨hH, hr13⟩⟩⟩
    · refine C_exit (fun a ha65 => ?_)
      exact ⟨((), A22), ha65.sub trivial, ⟨(h29 (eq_of_dec hle27 hc32)).symm, hH, hr13⟩⟩
  rintro ⟨s12, A18⟩ w15 ⟨rfl, hH19, hk16⟩ a ha17
  rw [Lp.andThen_fin] at hm
  replace hK := Tr.trans (Dw := Dw) hK hk16
  replace hB := Nat.le_trans hB hk16.ex.size
  replace hA := hk16.new
  replace hH : Hp w.heap.size A18 w15 ([]) := hH19
  refine C_at (n := ⟨19, [], none⟩) (fun _ _ => rfl) ?_ ha17
  refine C_seq ?_
  refine C_region ?_
  refine V_y (Y_assign rfl) rfl rfl rfl ?_
  refine V_to (fun _ _ => rfl) ?_
  obtain rfl := Option.some.inj hm
  refine C_ret ?_
  try simp only [↓inBlock_ret, ↓then_ret]
  exact retQ rfl (Res.one Tryd.results28 rfl) ⟨rfl, hK.kp⟩

set_option maxRecDepth 4000 in
set_option maxHeartbeats 4000000 in
theorem route_matcher_move_c (w : World) {A : Nat → Prop} {B : Nat} (hB : B ≤ w.heap.size) (hA : ∀ b, w.heap.size ≤ b → A b) (t : route_matcher) (b_t : Nat) (v_t0 : Value) (h_t0 : Sl A w v_t0 t.people) (v_t1 : Value) (h_t1 : Sl A w v_t1 t.work) (v_t2 : Value) (v_t3 : Value) (v_t4 : Value) (k_ : Int) (p : Int) {L : List Ob} (hH : Hp B A w (obC b_t [v_t0, v_t1, v_t2, v_t3, v_t4] 41 :: obS (α := Int) 3 v_t2 t.at_ :: obS (α := Int) 3 v_t3 t.free :: obS (α := Bool) 4 v_t4 t.fixed :: L)) {r : route_matcher} (hm : route_matcher_move t k_ p = some r) : Ret Tryd.prog 29 #[.pointer (some ⟨b_t, 0, none⟩), .int .i64 k_, .int .i64 p] w fun v w' => ∃ A1 : Nat → Prop, v = .tuple #[] ∧ Sl A1 w' v_t0 r.people ∧ Sl A1 w' v_t1 r.work ∧ Hp B A1 w' (obC b_t [v_t0, v_t1, v_t2, v_t3, v_t4] 41 :: obS (α := Int) 3 v_t2 r.at_ :: obS (α := Int) 3 v_t3 r.free :: obS (α := Bool) 4 v_t4 r.fixed :: L) ∧ Tr Dw B A w A1 w' := by
  unfold route_matcher_move at hm
  refine enter Tryd.func29 rfl Tryd.ntmps29 rfl ?_
  have hK : Tr Dw B A w A w := Tr.refl (Dw := Dw) hA
  refine C_seq ?_
  refine C_seq ?_
  refine C_region ?_
  refine V_y (Y_move rfl) rfl rfl rfl ?_
  refine V_y (Y_nilCheck rfl) rfl rfl rfl ?_
  refine V_y (Y_fieldAddrC (off2 := 2) Tryd.underlying41 rfl Tryd.sizeOf24 (by decide) rfl rfl) rfl rfl rfl ?_
  refine V_y (Y_load (Hp.cell (j := 2) hH (i := 0) rfl rfl) Tryd.isAgg24 rfl) rfl rfl rfl ?_
  refine V_y (Y_move rfl) rfl rfl rfl ?_
  obtain ⟨x11, hx11, hm⟩ := Option.bind_eq_some_iff.1 hm
  refine V_indexAddrH (α := Int) (e := 3) (v := v_t2) (l := t.at_) hH (i := 1) rfl hx11 Tryd.underlying24 Tryd.sizeOf3 rfl rfl rfl ?_
  intro b12 o13 h14 hl15
  refine V_y (Y_load (El.int h14) Tryd.isAgg3 rfl) rfl rfl rfl ?_
  refine V_y (Y_geq rfl rfl) rfl rfl rfl ?_
  refine V_to (fun _ _ => rfl) ?_
  obtain ⟨s17, ho16, hm⟩ := Option.bind_eq_some_iff.1 hm
  refine C_cutG (ι := (Nat → Prop)) (fun (A32 : (Nat → Prop)) => [(0, .pointer (some ⟨b_t, 0, none⟩)), (1, .int .i64 k_), (2, .int .i64 p)]) (fun (A32 : (Nat → Prop)) => fun w' => Sl A32 w' v_t0 s17.people ∧ Sl A32 w' v_t1 s17.work ∧ Hp B A32 w' (obC b_t [v_t0, v_t1, v_t2, v_t3, v_t4] 41 :: obS (α := Int) 3 v_t2 s17.at_ :: obS (α := Int) 3 v_t3 s17.free :: obS (α := Bool) 4 v_t4 s17.fixed :: L) ∧ Tr Dw B A w A32 w') ?_ ?_
  · have hr18 : Tr Dw B A w A w := Tr.refl (Dw := Dw) hA
    refine C_cond rfl (fun hc34 => ?_) (fun hc34 => ?_)
    · rw [if_pos hc34] at ho16
      refine C_region_qt (Dw := Dw) 15 Tryd_mixed (by kernel_rfl) ?_
      simp only [List.take, List.drop]
      refine VQ_y (fun w' hw' => Y_move rfl) rfl rfl rfl ?_
      refine VQ_y (fun w' hw' => Y_nilCheck rfl) rfl rfl rfl ?_
      refine VQ_y (fun w' hw' => Y_fieldAddrC (off2 := 3) Tryd.underlying41 rfl Tryd.sizeOf24 (by decide) rfl rfl) rfl rfl rfl ?_
      refine VQ_y (fun w' hw' => Y_load ((World.cell?_of_block (hw'.block _ (World.block_lt_of_cell? _ _ (Hp.cell (j := 3) hH (i := 0) rfl rfl)))).trans (Hp.cell (j := 3) hH (i := 0) rfl rfl)) Tryd.isAgg24 rfl) rfl rfl rfl ?_
      refine VQ_y (fun w' hw' => Y_move rfl) rfl rfl rfl ?_
      refine VQ_y (fun w' hw' => Y_nilCheck rfl) rfl rfl rfl ?_
      refine VQ_y (fun w' hw' => Y_fieldAddrC (off2 := 2) Tryd.underlying41 rfl Tryd.sizeOf24 (by decide) rfl rfl) rfl rfl rfl ?_
      refine VQ_y (fun w' hw' => Y_load ((World.cell?_of_block (hw'.block _ (World.block_lt_of_cell? _ _ (Hp.cell (j := 2) hH (i := 0) rfl rfl)))).trans (Hp.cell (j := 2) hH (i := 0) rfl rfl)) Tryd.isAgg24 rfl) rfl rfl rfl ?_
      refine VQ_y (fun w' hw' => Y_move rfl) rfl rfl rfl ?_
      refine VQ_indexAddrH (α := Int) (e := 3) (v := v_t2) (l := t.at_) hH (i := 1) rfl hx11 Tryd.underlying24 Tryd.sizeOf3 rfl rfl rfl ?_
      intro b35 o36 h37 hl38
      refine VQ_y (fun w' hw' => Y_load (El.int (El.kp (Dw := Dw) h37 hw')) Tryd.isAgg3 rfl) rfl rfl rfl ?_
      obtain ⟨x39, hx39, ho16⟩ := Option.bind_eq_some_iff.1 ho16
      refine VQ_indexAddrH (α := Int) (e := 3) (v := v_t3) (l := t.free) hH (i := 2) rfl hx39 Tryd.underlying24 Tryd.sizeOf3 rfl rfl rfl ?_
      intro b40 o41 h42 hl43
      refine VQ_y (fun w' hw' => Y_load (El.int (El.kp (Dw := Dw) h42 hw')) Tryd.isAgg3 rfl) rfl rfl rfl ?_
      refine VQ_y (fun w' hw' => Y_addI rfl rfl) rfl rfl rfl ?_
      refine VQ_indexAddrH (α := Int) (e := 3) (v := v_t3) (l := t.free) hH (i := 2) rfl hx39 Tryd.underlying24 Tryd.sizeOf3 rfl rfl rfl ?_
      intro b44 o45 h46 hl47
      refine VQ_tail (fun w48 hk49 => ?_)
      try simp only [List.take, List.drop]
      have ht50 := Kp.tr (Dw := Dw) hk49 hA hB
      replace hH := Hp.kp (Dw := Dw) hH hk49
      replace h37 := El.kp (Dw := Dw) h37 hk49
      replace h42 := El.kp (Dw := Dw) h42 hk49
      replace h46 := El.kp (Dw := Dw) h46 hk49
      replace h_t0 := Sl.tr (Dw := Dw) h_t0 ht50
      replace h_t1 := Sl.tr (Dw := Dw) h_t1 ht50
      replace hK := Tr.trans (Dw := Dw) hK ht50
      replace hr18 := Tr.trans (Dw := Dw) hr18 ht50
      replace hB := Nat.le_trans hB ht50.ex.size
      replace hA := ht50.new
      obtain ⟨x51, hx51, ho16⟩ := Option.bind_eq_some_iff.1 ho16
      refine V_storeH (Dw := Dw) (α := Int) (e := 3) (v := v_t3) (l := t.free) hH (i := 2) rfl hl47 hx51 rfl Tryd.sizeOf3 rfl hB hA rfl rfl ?_
      intro w52 hH53 ht54
      replace h_t0 := Sl.tr (Dw := Dw) h_t0 ht54
      replace h_t1 := Sl.tr (Dw := Dw) h_t1 ht54
      replace hK := Tr.trans (Dw := Dw) hK ht54
      replace hr18 := Tr.trans (Dw := Dw) hr18 ht54
      replace hB := Nat.le_trans hB ht54.ex.size
      replace hA := ht54.new
      replace hH : Hp B A w52 (obC b_t [v_t0, v_t1, v_t2, v_t3, v_t4] 41 :: obS (α := Int) 3 v_t2 t.at_ :: obS (α := Int) 3 v_t3 x51 :: obS (α := Bool) 4 v_t4 t.fixed :: L) := hH53
      obtain rfl := Option.some.inj ho16
      refine V_end (fun a ha55 => ?_)
      exact ⟨A, ha55.sub ⟨rfl, rfl, rfl, trivial⟩, ⟨h_t0, h_t1, hH, hr18⟩⟩
    · rw [if_neg (nt hc34)] at ho16
      obtain rfl := Option.some.inj ho16
      refine C_skip (fun a ha56 => ?_)
      exact ⟨A, ha56.sub ⟨rfl, rfl, rfl, trivial⟩, ⟨h_t0, h_t1, hH, hr18⟩⟩
  rintro A32 w29 ⟨h20, h22, hH33, hk30⟩ a ha31
  replace hK := Tr.trans (Dw := Dw) hK hk30
  replace hB := Nat.le_trans hB hk30.ex.size
  replace hA := hk30.new
  replace hH : Hp B A32 w29 (obC b_t [v_t0, v_t1, v_t2, v_t3, v_t4] 41 :: obS (α := Int) 3 v_t2 s17.at_ :: obS (α := Int) 3 v_t3 s17.free :: obS (α := Bool) 4 v_t4 s17.fixed :: L) := hH33
  refine C_at (n := ⟨47, [], none⟩) (fun _ _ => rfl) ?_ ha31
  refine C_seq ?_
  refine C_region ?_
  refine V_y (Y_move rfl) rfl rfl rfl ?_
  refine V_y (Y_nilCheck rfl) rfl rfl rfl ?_
  refine V_y (Y_fieldAddrC (off2 := 2) Tryd.underlying41 rfl Tryd.sizeOf24 (by decide) rfl rfl) rfl rfl rfl ?_
  refine V_y (Y_load (Hp.cell (j := 2) hH (i := 0) rfl rfl) Tryd.isAgg24 rfl) rfl rfl rfl ?_
  refine V_y (Y_move rfl) rfl rfl rfl ?_
  refine V_y (Y_move rfl) rfl rfl rfl ?_
  obtain ⟨x57, hx57, hm⟩ := Option.bind_eq_some_iff.1 hm
  refine V_indexAddrH (α := Int) (e := 3) (v := v_t2) (l := s17.at_) hH (i := 1) rfl hx57 Tryd.underlying24 Tryd.sizeOf3 rfl rfl rfl ?_
  intro b58 o59 h60 hl61
  obtain ⟨x62, hx62, hm⟩ := Option.bind_eq_some_iff.1 hm
  refine V_storeH (Dw := Dw) (α := Int) (e := 3) (v := v_t2) (l := s17.at_) hH (i := 1) rfl hl61 hx62 rfl Tryd.sizeOf3 rfl hB hA rfl rfl ?_
  intro w63 hH64 ht65
  replace h20 := Sl.tr (Dw := Dw) h20 ht65
  replace h22 := Sl.tr (Dw := Dw) h22 ht65
  replace hK := Tr.trans (Dw := Dw) hK ht65
  replace hB := Nat.le_trans hB ht65.ex.size
  replace hA := ht65.new
  replace hH : Hp B A32 w63 (obC b_t [v_t0, v_t1, v_t2, v_t3, v_t4] 41 :: obS (α := Int) 3 v_t2 x62 :: obS (α := Int) 3 v_t3 s17.free :: obS (α := Bool) 4 v_t4 s17.fixed :: L) := hH64
  refine V_to (fun _ _ => rfl) ?_
  refine C_seq ?_
  refine C_region ?_
  refine V_y (Y_move rfl) rfl rfl rfl ?_
  refine V_y (Y_geq rfl rfl) rfl rfl rfl ?_
  refine V_to (fun _ _ => rfl) ?_
  obtain ⟨s67, ho66, hm⟩ := Option.bind_eq_some_iff.1 hm
  refine C_cutG (ι := (Nat → Prop)) (fun (A82 : (Nat → Prop)) => []) (fun (A82 : (Nat → Prop)) => fun w' => Sl A82 w' v_t0 s67.people ∧ Sl A82 w' v_t1 s67.work ∧ Hp B A82 w' (obC b_t [v_t0, v_t1, v_t2, v_t3, v_t4] 41 :: obS (α := Int) 3 v_t2 s67.at_ :: obS (α := Int) 3 v_t3 s67.free :: obS (α := Bool) 4 v_t4 s67.fixed :: L) ∧ Tr Dw B A32 w63 A82 w') ?_ ?_
  · have hr68 : Tr Dw B A32 w63 A32 w63 := Tr.refl (Dw := Dw) hA
    refine C_cond rfl (fun hc84 => ?_) (fun hc84 => ?_)
    · rw [if_pos hc84] at ho66
      refine C_region ?_
      refine V_y (Y_move rfl) rfl rfl rfl ?_
      refine V_y (Y_nilCheck rfl) rfl rfl rfl ?_
      refine V_y (Y_fieldAddrC (off2 := 3) Tryd.underlying41 rfl Tryd.sizeOf24 (by decide) rfl rfl) rfl rfl rfl ?_
      refine V_y (Y_load (Hp.cell (j := 3) hH (i := 0) rfl rfl) Tryd.isAgg24 rfl) rfl rfl rfl ?_
      refine V_y (Y_move rfl) rfl rfl rfl ?_
      obtain ⟨x85, hx85, ho66⟩ := Option.bind_eq_some_iff.1 ho66
      refine V_indexAddrH (α := Int) (e := 3) (v := v_t3) (l := s17.free) hH (i := 2) rfl hx85 Tryd.underlying24 Tryd.sizeOf3 rfl rfl rfl ?_
      intro b86 o87 h88 hl89
      refine V_y (Y_load (El.int h88) Tryd.isAgg3 rfl) rfl rfl rfl ?_
      refine V_y (Y_subI rfl rfl) rfl rfl rfl ?_
      refine V_indexAddrH (α := Int) (e := 3) (v := v_t3) (l := s17.free) hH (i := 2) rfl hx85 Tryd.underlying24 Tryd.sizeOf3 rfl rfl rfl ?_
      intro b90 o91 h92 hl93
      obtain ⟨x94, hx94, ho66⟩ := Option.bind_eq_some_iff.1 ho66
      refine V_storeH (Dw := Dw) (α := Int) (e := 3) (v := v_t3) (l := s17.free) hH (i := 2) rfl hl93 hx94 rfl Tryd.sizeOf3 rfl hB hA rfl rfl ?_
      intro w95 hH96 ht97
      replace h20 := Sl.tr (Dw := Dw) h20 ht97
      replace h22 := Sl.tr (Dw := Dw) h22 ht97
      replace hK := Tr.trans (Dw := Dw) hK ht97
      replace hr68 := Tr.trans (Dw := Dw) hr68 ht97
      replace hB := Nat.le_trans hB ht97.ex.size
      replace hA := ht97.new
      replace hH : Hp B A32 w95 (obC b_t [v_t0, v_t1, v_t2, v_t3, v_t4] 41 :: obS (α := Int) 3 v_t2 x62 :: obS (α := Int) 3 v_t3 x94 :: obS (α := Bool) 4 v_t4 s17.fixed :: L) := hH96
      obtain rfl := Option.some.inj ho66
      refine V_end (fun a ha98 => ?_)
      exact ⟨A32, ha98.sub trivial, ⟨h20, h22, hH, hr68⟩⟩
    · rw [if_neg (nt hc84)] at ho66
      obtain rfl := Option.some.inj ho66
      refine C_skip (fun a ha99 => ?_)
      exact ⟨A32, ha99.sub trivial, ⟨h20, h22, hH, hr68⟩⟩
  rintro A82 w79 ⟨h70, h72, hH83, hk80⟩ a ha81
  replace hK := Tr.trans (Dw := Dw) hK hk80
  replace hB := Nat.le_trans hB hk80.ex.size
  replace hA := hk80.new
  replace hH : Hp B A82 w79 (obC b_t [v_t0, v_t1, v_t2, v_t3, v_t4] 41 :: obS (α := Int) 3 v_t2 s67.at_ :: obS (α := Int) 3 v_t3 s67.free :: obS (α := Bool) 4 v_t4 s67.fixed :: L) := hH83
  obtain rfl := Option.some.inj hm
  try simp only [↓inBlock_ret, ↓then_ret]
  exact normQ (retQ rfl (Res.zero Tryd.results29) ⟨A82, rfl, h70, h72, hH, hK⟩ a ha81)

end Go.Proofs.YtgmenjhmnjhgoaaDoor.W
